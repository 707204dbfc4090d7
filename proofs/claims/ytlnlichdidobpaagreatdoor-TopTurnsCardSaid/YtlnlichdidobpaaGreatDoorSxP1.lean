/-
 Sx: a verified executor over the loaded code, part 1 of 4.
-/
import Derived.WalkKit
import Derived.DeepKeys
import Derived.Lib.ItoaNum
import Derived.Lib.TrailingZeros
import Derived.OpenShut
/-
 Sx, part A: data of Go types as plain Lean data, and what it means that cells of the memory read as such data.
-/
namespace Go.Sx

inductive Ty where
 | int (k : IntKind)
 | bool
 | str
 | sl (t : Ty)
 | arr (n : Nat) (t : Ty)
 | pair (a b : Ty)
 | err

def Ty.decEq : (a b : Ty) → Decidable (a = b)
 | .int j, .int k => if h : j = k then .isTrue (by rw [h]) else .isFalse (fun e => h (by injection e))
 | .bool, .bool => .isTrue rfl
 | .str, .str => .isTrue rfl
 | .sl a, .sl b => match Ty.decEq a b with
  | .isTrue h => .isTrue (by rw [h])
  | .isFalse h => .isFalse (fun e => h (by injection e))
 | .arr n a, .arr m b => if hn : n = m then (match Ty.decEq a b with
   | .isTrue h => .isTrue (by rw [h, hn])
   | .isFalse h => .isFalse (fun e => h (by injection e))) else .isFalse (fun e => hn (by injection e))
 | .pair a b, .pair c d => match Ty.decEq a c with
  | .isTrue h => (match Ty.decEq b d with
   | .isTrue h2 => .isTrue (by rw [h, h2])
   | .isFalse h2 => .isFalse (fun e => h2 (by injection e)))
  | .isFalse h => .isFalse (fun e => h (by injection e))
 | .int _, .bool => .isFalse (fun e => by cases e)
 | .int _, .str => .isFalse (fun e => by cases e)
 | .int _, .sl _ => .isFalse (fun e => by cases e)
 | .int _, .arr _ _ => .isFalse (fun e => by cases e)
 | .int _, .pair _ _ => .isFalse (fun e => by cases e)
 | .bool, .int _ => .isFalse (fun e => by cases e)
 | .bool, .str => .isFalse (fun e => by cases e)
 | .bool, .sl _ => .isFalse (fun e => by cases e)
 | .bool, .arr _ _ => .isFalse (fun e => by cases e)
 | .bool, .pair _ _ => .isFalse (fun e => by cases e)
 | .str, .int _ => .isFalse (fun e => by cases e)
 | .str, .bool => .isFalse (fun e => by cases e)
 | .str, .sl _ => .isFalse (fun e => by cases e)
 | .str, .arr _ _ => .isFalse (fun e => by cases e)
 | .str, .pair _ _ => .isFalse (fun e => by cases e)
 | .sl _, .int _ => .isFalse (fun e => by cases e)
 | .sl _, .bool => .isFalse (fun e => by cases e)
 | .sl _, .str => .isFalse (fun e => by cases e)
 | .sl _, .arr _ _ => .isFalse (fun e => by cases e)
 | .sl _, .pair _ _ => .isFalse (fun e => by cases e)
 | .arr _ _, .int _ => .isFalse (fun e => by cases e)
 | .arr _ _, .bool => .isFalse (fun e => by cases e)
 | .arr _ _, .str => .isFalse (fun e => by cases e)
 | .arr _ _, .sl _ => .isFalse (fun e => by cases e)
 | .arr _ _, .pair _ _ => .isFalse (fun e => by cases e)
 | .pair _ _, .int _ => .isFalse (fun e => by cases e)
 | .pair _ _, .bool => .isFalse (fun e => by cases e)
 | .pair _ _, .str => .isFalse (fun e => by cases e)
 | .pair _ _, .sl _ => .isFalse (fun e => by cases e)
 | .pair _ _, .arr _ _ => .isFalse (fun e => by cases e)
 | .err, .err => .isTrue rfl
 | .err, .int _ => .isFalse (fun e => by cases e)
 | .err, .bool => .isFalse (fun e => by cases e)
 | .err, .str => .isFalse (fun e => by cases e)
 | .err, .sl _ => .isFalse (fun e => by cases e)
 | .err, .arr _ _ => .isFalse (fun e => by cases e)
 | .err, .pair _ _ => .isFalse (fun e => by cases e)
 | .int _, .err => .isFalse (fun e => by cases e)
 | .bool, .err => .isFalse (fun e => by cases e)
 | .str, .err => .isFalse (fun e => by cases e)
 | .sl _, .err => .isFalse (fun e => by cases e)
 | .arr _ _, .err => .isFalse (fun e => by cases e)
 | .pair _ _, .err => .isFalse (fun e => by cases e)
instance : DecidableEq Ty := Ty.decEq

def IR : IntKind → Int → Prop
 | .i64, n => -9223372036854775808 ≤ n ∧ n ≤ 9223372036854775807
 | .u64, n => 0 ≤ n ∧ n ≤ 18446744073709551615
 | .i32, n => -2147483648 ≤ n ∧ n ≤ 2147483647
 | .u32, n => 0 ≤ n ∧ n ≤ 4294967295
 | .i16, n => -32768 ≤ n ∧ n ≤ 32767
 | .u16, n => 0 ≤ n ∧ n ≤ 65535
 | .i8, n => -128 ≤ n ∧ n ≤ 127
 | .u8, n => 0 ≤ n ∧ n ≤ 255
def mkStr (l : List Int) : ByteArray := ⟨(l.map fun n => UInt8.ofNat n.toNat).toArray⟩
def ofStr (s : ByteArray) : List Int := s.data.toList.map fun b => (b.toNat : Int)
def bN (l : List Int) : Prop := l.length ≤ 9223372036854775807 ∧ ∀ b ∈ l, 0 ≤ b ∧ b ≤ 255
theorem Br (s : ByteArray) : mkStr (ofStr s) = s := by
 have : ((s.data.toList.map fun b => (b.toNat : Int)).map fun n => UInt8.ofNat n.toNat) = s.data.toList := by
  rw [List.map_map]
  conv => rhs; rw [← List.map_id s.data.toList]
  refine List.map_congr_left fun b _ => ?_
  simp
 unfold mkStr ofStr
 rw [this]
theorem tf {l : List Int} (h : bN l) : ofStr (mkStr l) = l := by
 unfold mkStr ofStr
 simp only [List.map_map]
 conv => rhs; rw [← List.map_id l]
 refine List.map_congr_left fun b hb => ?_
 have := h.2 b hb
 simp only [Function.comp, id, UInt8.toNat_ofNat']
 omega
theorem mf (s : ByteArray) : (ofStr s).length = s.size := by unfold ofStr; rw [List.length_map, Array.length_toList]; rfl
theorem xd (s : ByteArray) (h : s.size ≤ 9223372036854775807) : bN (ofStr s) := by
 refine ⟨by rw [mf]; exact h, ?_⟩
 intro b hb
 obtain ⟨c, _, rfl⟩ := List.mem_map.1 hb
 have := c.toNat_lt
 omega
theorem xq {a b : List Int} (ha : bN a) (hb : bN b) (h : mkStr a = mkStr b) : a = b := by
 rw [← tf ha, ← tf hb, h]
theorem dh (l : List Int) : (mkStr l).size = l.length := by simp [mkStr, ByteArray.size]

@[reducible] def Ty.D : Ty → Type
 | .int _ => Int
 | .bool => Bool
 | .str => List Int
 | .sl t => List t.D
 | .arr _ t => List t.D
 | .pair a b => a.D × b.D
 | .err => Bool

def Ty.size : Ty → Nat
 | .int _ => 1
 | .bool => 1
 | .str => 1
 | .sl _ => 1
 | .arr n t => n * t.size
 | .pair a b => a.size + b.size
 | .err => 1

def Ty.agg : Ty → Bool
 | .arr _ _ => true
 | .pair _ _ => true
 | _ => false

def Ty.zero : (t : Ty) → t.D
 | .int _ => (0 : Int)
 | .bool => false
 | .str => []
 | .sl _ => []
 | .arr n t => List.replicate n t.zero
 | .pair a b => (a.zero, b.zero)
 | .err => false

def nth (t : Ty) (xs : List t.D) (i : Nat) : t.D := xs.getD i t.zero

def Rd (S : Nat → Prop) (w : World) : (t : Ty) → List Value → t.D → Prop
 | .int k, cs, x => cs = [.int k x] ∧ IR k x
 | .bool, cs, x => cs = [.bool x]
 | .str, cs, x => cs = [.string (mkStr x)] ∧ bN x
 | .sl t, cs, xs => ∃ A c, cs = [.slice A xs.length c] ∧ xs.length ≤ c ∧ c ≤ maxLen ∧
   (0 < xs.length → ∃ b o, A = some ⟨b, o, none⟩ ∧ S b ∧ ∀ (i : Nat) x, xs[i]? = some x →
    ∃ l, (∀ (j : Nat) v, l[j]? = some v → w.cell? ⟨b, o + (i * t.size + j), none⟩ = some v) ∧ Rd S w t l x)
 | .arr n t, cs, xs => xs.length = n ∧ cs.length = n * t.size ∧ ∀ (i : Nat) x, xs[i]? = some x → Rd S w t ((cs.drop (i * t.size)).take t.size) x
 | .pair a b, cs, x => ∃ l m, cs = l ++ m ∧ Rd S w a l x.1 ∧ Rd S w b m x.2
 | .err, cs, x => (x = false ∧ cs = [.nilIface]) ∨ (x = true ∧ ∃ t v, cs = [.iface t v])

theorem Rd.len {S : Nat → Prop} {w : World} : ∀ {t : Ty} {cs : List Value} {x : t.D}, Rd S w t cs x → cs.length = t.size
 | .int _, _, _, h => by rw [h.1]; rfl
 | .bool, _, _, h => by rw [show _ = _ from h]; rfl
 | .str, _, _, h => by rw [h.1]; rfl
 | .sl _, _, _, h => by obtain ⟨A, c, h, _⟩ := h; rw [h]; rfl
 | .arr _ _, _, _, h => h.2.1
 | .pair _ _, _, _, h => by
  obtain ⟨l, m, h, h1, h2⟩ := h
  rw [h, List.length_append, Rd.len h1, Rd.len h2]; rfl
 | .err, _, _, h => by rcases h with ⟨_, h⟩ | ⟨_, _, _, h⟩ <;> (rw [h]; rfl)

def gD (S : Nat → Prop) (w : World) (S' : Nat → Prop) (w' : World) : Prop :=
 ∀ b, S b → S' b ∧ w'.heap[b]? = w.heap[b]?

theorem gD.cell {S S' : Nat → Prop} {w w' : World} (h : gD S w S' w') {b o : Nat} (hb : S b) : w'.cell? ⟨b, o, none⟩ = w.cell? ⟨b, o, none⟩ := by
 simp only [World.cell?, (h b hb).2]
theorem gD.refl (S : Nat → Prop) (w : World) : gD S w S w := fun _ h => ⟨h, rfl⟩
theorem gD.trans {S S' S'' : Nat → Prop} {w w' w'' : World} (h : gD S w S' w') (h' : gD S' w' S'' w'') : gD S w S'' w'' :=
 fun b hb => ⟨(h' b (h b hb).1).1, ((h' b (h b hb).1).2).trans (h b hb).2⟩

theorem Rd.mono {S S' : Nat → Prop} {w w' : World} (k : gD S w S' w') : ∀ {t : Ty} {cs : List Value} {x : t.D}, Rd S w t cs x → Rd S' w' t cs x
 | .int _, _, _, h => h
 | .bool, _, _, h => h
 | .str, _, _, h => h
 | .sl t, _, _, h => by
  obtain ⟨A, c, h1, h2, h3, h4⟩ := h
  refine ⟨A, c, h1, h2, h3, fun hp => ?_⟩
  obtain ⟨b, o, e, hS, hx⟩ := h4 hp
  refine ⟨b, o, e, (k b hS).1, fun i x hi => ?_⟩
  obtain ⟨l, hl, hr⟩ := hx i x hi
  exact ⟨l, fun j v hv => (k.cell hS).trans (hl j v hv), hr.mono k⟩
 | .arr n t, _, _, h => ⟨h.1, h.2.1, fun i x hi => (h.2.2 i x hi).mono k⟩
 | .pair a b, _, _, h => by
  obtain ⟨l, m, e, h1, h2⟩ := h
  exact ⟨l, m, e, h1.mono k, h2.mono k⟩
 | .err, _, _, h => h

theorem eG {t : Ty} {xs : List t.D} {i : Nat} (h : i < xs.length) : xs[i]? = some (nth t xs i) := by
 simp [nth, List.getD, h]

end Go.Sx
/-
 Sx, part AA: the shape of a type of the program; data without slices: when two of them are equal.
-/
namespace Go.Sx

def IntKind.low : IntKind → Nat
 | .i64 => 8
 | .u64 => 8
 | .i32 => 4
 | .u32 => 4
 | .i16 => 2
 | .u16 => 2
 | .i8 => 1
 | .u8 => 1
def up (o a : Nat) : Nat := (o + a - 1) / a * a
def Ty.al : Ty → Nat
 | .int k => IntKind.low k
 | .bool => 1
 | .str => 8
 | .sl _ => 8
 | .arr _ t => t.al
 | .pair a b => max a.al b.al
 | .err => 8
def Ty.lay : Ty → Nat → Nat
 | .int k, o => up o (IntKind.low k) + IntKind.low k
 | .bool, o => o + 1
 | .str, o => up o 8 + 16
 | .sl _, o => up o 8 + 24
 | .arr n t, o => up o t.al + n * up (t.lay 0) t.al
 | .pair a b, o => b.lay (a.lay o)
 | .err, o => up o 8 + 16
def Ty.low (t : Ty) : Nat := up (t.lay 0) t.al

def FL (P : Program) : Ty → (TypeId → Prop) × (List Field → Nat → Prop)
 | .int k => (fun t => P.underlying t = some (.int k), fun _ _ => False)
 | .bool => (fun t => P.underlying t = some .bool, fun _ _ => False)
 | .str => (fun t => P.underlying t = some .string, fun _ _ => False)
 | .sl u => (fun t => ∃ e, P.underlying t = some (.slice e) ∧ P.cellsOf e = u.size ∧ u.low ≤ P.bytesOf e ∧ 0 < u.size ∧ (FL P u).1 e, fun _ _ => False)
 | .arr n u => (fun t => ∃ e, P.underlying t = some (.array n e) ∧ P.cellsOf e = u.size ∧ P.cellsOf t = n * u.size ∧ (FL P u).1 e, fun _ _ => False)
 | .pair a b =>
  let F : List Field → Nat → Prop := fun fs o => match fs with
   | [f, g] => f.offset = o ∧ P.cellsOf f.type = a.size ∧ (FL P a).1 f.type ∧ g.offset = o + a.size ∧ P.cellsOf g.type = b.size ∧ (FL P b).1 g.type
   | f :: g :: h :: r => f.offset = o ∧ P.cellsOf f.type = a.size ∧ (FL P a).1 f.type ∧ (FL P b).2 (g :: h :: r) (o + a.size)
   | _ => False
  (fun t => ∃ fs, P.underlying t = some (.struct fs) ∧ P.cellsOf t = a.size + b.size ∧ F fs.toList 0, F)
 | .err => (fun _ => False, fun _ _ => False)
abbrev Nn (P : Program) (u : Ty) (t : TypeId) : Prop := (FL P u).1 t

theorem mapM_some {α β : Type} {f : α → Option β} : ∀ {l : List α} {ys : List β}, l.mapM f = some ys → ys.length = l.length ∧ ∀ (i : Nat) x, l[i]? = some x → ∃ y, ys[i]? = some y ∧ f x = some y
 | [], ys, h => by simp at h; subst h; simp
 | x :: l, ys, h => by
  rw [List.mapM_cons] at h
  cases hx : f x with
  | none => rw [hx] at h; simp at h
  | some y =>
   rw [hx] at h
   cases hr : l.mapM f with
   | none => rw [hr] at h; simp at h
   | some m =>
    rw [hr] at h
    simp at h
    subst h
    obtain ⟨h1, h2⟩ := mapM_some hr
    refine ⟨by simp [h1], fun i z hi => ?_⟩
    cases i with
    | zero => simp at hi; subst hi; exact ⟨y, rfl, hx⟩
    | succ i => simpa using h2 i z (by simpa using hi)

def jW : Ty → Bool
 | .sl _ => false
 | .arr _ t => jW t
 | .pair a b => jW a && jW b
 | .err => false
 | _ => true
def ya : (t : Ty) → t.D → t.D → Bool
 | .int _, x, y => decide (x = y)
 | .bool, x, y => x == y
 | .str, x, y => decide (x = y)
 | .sl t, x, y => lists (ya t) x y
 | .arr _ t, x, y => lists (ya t) x y
 | .pair a b, x, y => ya a x.1 y.1 && ya b x.2 y.2
 | .err, x, y => x == y
where lists {α : Type} (f : α → α → Bool) : List α → List α → Bool
 | [], [] => true
 | a :: r, b :: q => f a b && lists f r q
 | _, _ => false
theorem sf {α : Type} {f : α → α → Bool} (hf : ∀ a b, f a b = true ↔ a = b) : ∀ {x y : List α}, ya.lists f x y = true ↔ x = y
 | [], [] => by simp [ya.lists]
 | a :: r, b :: q => by simp [ya.lists, hf, sf hf (x := r) (y := q)]
 | [], _ :: _ => by simp [ya.lists]
 | _ :: _, [] => by simp [ya.lists]
theorem rq : ∀ {t : Ty} {x y : t.D}, ya t x y = true ↔ x = y
 | .int _, _, _ => by simp [ya]
 | .bool, _, _ => by simp [ya]
 | .str, _, _ => by simp [ya]
 | .sl t, _, _ => sf (fun _ _ => rq)
 | .arr _ t, _, _ => sf (fun _ _ => rq)
 | .pair a b, x, y => by
  obtain ⟨x1, x2⟩ := x
  obtain ⟨y1, y2⟩ := y
  simp only [ya, Bool.and_eq_true, Prod.mk.injEq]
  exact and_congr rq rq
 | .err, _, _ => by simp [ya]
theorem Rd.fun {S S' : Nat → Prop} {w w' : World} : ∀ {t : Ty} {cs : List Value} {x y : t.D}, jW t = true → Rd S w t cs x → Rd S' w' t cs y → x = y
 | .int _, _, _, _, _, h, h' => by
  have h1 := h.1; rw [h'.1] at h1; simpa using h1.symm
 | .bool, _, _, _, _, h, h' => by
  have h1 : _ = _ := h
  rw [show _ = _ from h'] at h1; simpa using h1.symm
 | .str, _, _, _, _, h, h' => by
  have h1 := h.1; rw [h'.1] at h1
  exact (xq h'.2 h.2 (by simpa using h1)).symm
 | .sl _, _, _, _, hf, _, _ => by cases hf
 | .pair a b, cs, x, y, hf, h, h' => by
  simp only [jW, Bool.and_eq_true] at hf
  obtain ⟨l, m, e, h1, h2⟩ := h
  obtain ⟨l', m', e', h1', h2'⟩ := h'
  have hl : l.length = l'.length := by rw [h1.len, h1'.len]
  obtain ⟨rfl, rfl⟩ := List.append_inj (e.symm.trans e') hl
  have e1 := Rd.fun hf.1 h1 h1'
  have e2 := Rd.fun hf.2 h2 h2'
  cases x; cases y; simp_all
 | .arr n t, cs, xs, ys, hf, h, h' => by
  refine List.ext_getElem? fun i => ?_
  by_cases hi : i < n
  ·have h1 : i < xs.length := by rw [h.1]; exact hi
   have h2 : i < ys.length := by rw [h'.1]; exact hi
   have a := h.2.2 i xs[i] (List.getElem?_eq_getElem h1)
   have b := h'.2.2 i ys[i] (List.getElem?_eq_getElem h2)
   rw [List.getElem?_eq_getElem h1, List.getElem?_eq_getElem h2, Rd.fun (t := t) hf a b]
  ·rw [List.getElem?_eq_none (by rw [h.1]; omega), List.getElem?_eq_none (by rw [h'.1]; omega)]
 | .err, _, _, _, hf, _, _ => by cases hf
theorem Rd.cells {S S' : Nat → Prop} {w w' : World} : ∀ {t : Ty} {cs ds : List Value} {x : t.D}, jW t = true → Rd S w t cs x → Rd S' w' t ds x → cs = ds
 | .int _, _, _, _, _, h, h' => by rw [h.1, h'.1]
 | .bool, _, _, _, _, h, h' => by rw [show _ = _ from h, show _ = _ from h']
 | .str, _, _, _, _, h, h' => by rw [h.1, h'.1]
 | .sl _, _, _, _, hf, _, _ => by cases hf
 | .pair a b, _, _, _, hf, h, h' => by
  simp only [jW, Bool.and_eq_true] at hf
  obtain ⟨l, m, e, h1, h2⟩ := h
  obtain ⟨l', m', e', h1', h2'⟩ := h'
  rw [e, e', Rd.cells hf.1 h1 h1', Rd.cells hf.2 h2 h2']
 | .arr n t, cs, ds, xs, hf, h, h' => by
  have hl : cs.length = ds.length := by rw [h.2.1, h'.2.1]
  refine List.ext_getElem? fun j => ?_
  by_cases hj : j < cs.length
  ·have hp : 0 < t.size := by
    rcases Nat.eq_zero_or_pos t.size with h0 | h0
    ·have := h.2.1; rw [h0, Nat.mul_zero] at this; omega
    ·exact h0
   have hq : j / t.size < n := by rw [Nat.div_lt_iff_lt_mul hp, ← h.2.1]; exact hj
   have hm : j % t.size < t.size := Nat.mod_lt _ hp
   have hx : j / t.size < xs.length := by rw [h.1]; exact hq
   have a := h.2.2 _ _ (List.getElem?_eq_getElem hx)
   have b := h'.2.2 _ _ (List.getElem?_eq_getElem hx)
   have e := Rd.cells (t := t) hf a b
   have := congrArg (fun l => l[j % t.size]?) e
   simp only [List.getElem?_take, if_pos hm, List.getElem?_drop, Nat.div_add_mod' j t.size] at this
   exact this
  ·rw [List.getElem?_eq_none (by omega), List.getElem?_eq_none (by omega)]
 | .err, _, _, _, hf, _, _ => by cases hf

def Ue (P : Program) (d : Nat) (t : TypeId) (cs : List Value) : Prop := ∃ l, P.keyLits d t cs = some l ∧ l.map Lit.value = cs
def dN : Ty → Nat
 | .arr _ t => dN t + 1
 | .pair a b => max (dN a) (dN b) + 1
 | .sl t => dN t + 1
 | _ => 1
theorem R4 {k : IntKind} {n : Int} (h : IR k n) : (Lit.int k n).wf = true := by
 cases k <;> simp only [IR] at h <;> simp [Lit.wf, IntKind.min, IntKind.max, IntKind.bits, IntKind.signed] <;> omega
theorem Ek {α β : Type} {f : α → Option β} : ∀ {l : List α}, (∀ (i : Nat) x, l[i]? = some x → ∃ y, f x = some y) → ∃ ys, l.mapM f = some ys
 | [], _ => ⟨[], by simp⟩
 | x :: l, h => by
  obtain ⟨y, hy⟩ := h 0 x rfl
  obtain ⟨ys, hys⟩ := Ek (l := l) (fun i z hz => h (i + 1) z (by simpa using hz))
  exact ⟨y :: ys, by rw [List.mapM_cons, hy, hys]; rfl⟩
theorem vV {α : Type} (n : Nat) : ∀ (ls : List (List α)) (i : Nat) (l : List α), (∀ x ∈ ls, x.length = n) → ls[i]? = some l → (ls.flatten.drop (i * n)).take n = l
 | [], i, l, _, h => by simp at h
 | x :: ls, 0, l, hn, h => by
  have hx : x.length = n := hn x (by simp)
  simp at h; subst h
  simp [List.flatten_cons, ← hx]
 | x :: ls, i + 1, l, hn, h => by
  have hx : x.length = n := hn x (by simp)
  have ih := vV n ls i l (fun y hy => hn y (by simp [hy])) (by simpa using h)
  rw [List.flatten_cons, Nat.add_mul, Nat.one_mul, Nat.add_comm, ← List.drop_drop]
  rw [show (x ++ ls.flatten).drop n = ls.flatten by rw [← hx]; simp]
  exact ih
section
variable {P : Program} {S : Nat → Prop} {w : World}
abbrev LA (P : Program) (S : Nat → Prop) (w : World) (u : Ty) : Prop :=
 ∀ (m : Nat) (t : TypeId), (FL P u).1 t → P.keyTypeAt m t = true → ∀ (cs : List Value) (x : u.D), Rd S w u cs x → ∀ d, dN u ≤ d → Ue P d t cs
abbrev LB (P : Program) (S : Nat → Prop) (w : World) (u : Ty) : Prop :=
 ∀ (m : Nat) (fs : List Field) (o : Nat), (FL P u).2 fs o → (∀ f ∈ fs, P.keyTypeAt m f.type = true) → ∀ (cs : List Value) (x : u.D), Rd S w u (cs.drop o) x → cs.length = o + u.size → ∀ d, dN u ≤ d + 1 →
   ∃ ls, fs.mapM (fun f => P.keyLits d f.type ((cs.drop f.offset).take (P.cellsOf f.type))) = some ls ∧ ls.flatten.map Lit.value = cs.drop o
theorem oZ {u : Ty} (h : LA P S w u) (hn : ∀ fs o, ¬ (FL P u).2 fs o) : LA P S w u ∧ LB P S w u := ⟨h, fun _ fs o h => absurd h (hn fs o)⟩
theorem nw : ∀ (u : Ty), jW u = true → LA P S w u ∧ LB P S w u
 | .int k, _ => oZ (fun m t ht hk cs x hx d hd => by
   obtain ⟨rfl, hr⟩ := hx
   cases d with
   | zero => simp [dN] at hd
   | succ d => exact ⟨[.int k x], by unfold Program.keyLits; rw [show P.underlying t = some (.int k) from ht]; simp [R4 hr], rfl⟩) (fun _ _ h => h)
 | .bool, _ => oZ (fun m t ht hk cs x hx d hd => by
   cases show cs = [.bool x] from hx
   cases d with
   | zero => simp [dN] at hd
   | succ d => exact ⟨[.bool x], by unfold Program.keyLits; rw [show P.underlying t = some .bool from ht], rfl⟩) (fun _ _ h => h)
 | .str, _ => oZ (fun m t ht hk cs x hx d hd => by
   obtain ⟨rfl, hr⟩ := hx
   cases d with
   | zero => simp [dN] at hd
   | succ d =>
    have hs : (mkStr x).size ≤ maxLen := by rw [dh]; simp only [maxLen]; exact hr.1
    exact ⟨[.string (mkStr x).data.toList], by unfold Program.keyLits; rw [show P.underlying t = some .string from ht]; simp [hs], by simp [Lit.value_string_data]⟩) (fun _ _ h => h)
 | .sl _, hf => by cases hf
 | .arr n u, hf => oZ (fun m t ht hk cs x hx d hd => by
   obtain ⟨e, h1, h2, h3, h4⟩ := ht
   cases m with
   | zero => simp [Program.keyTypeAt] at hk
   | succ m =>
    unfold Program.keyTypeAt at hk
    rw [h1] at hk
    cases d with
    | zero => simp [dN] at hd
    | succ d =>
     simp only [dN] at hd
     obtain ⟨hxl, hcl, hx⟩ := hx
     have key : ∀ j, j < n → Ue P d e ((cs.drop (j * u.size)).take u.size) := fun j hj => by
      have hj' : j < x.length := by rw [hxl]; exact hj
      exact (nw u hf).1 m e h4 hk _ _ (hx j x[j] (List.getElem?_eq_getElem hj')) d (by omega)
     obtain ⟨ls, hls⟩ := Ek (f := fun i => P.keyLits d e ((cs.drop (i * P.cellsOf e)).take (P.cellsOf e))) (l := List.range n) (fun i j hj => by
      have hlt := (List.getElem?_eq_some_iff.1 hj).1
      simp only [List.length_range] at hlt
      have : i = j := by simpa [hlt] using hj
      subst this
      obtain ⟨l, hl, _⟩ := key i hlt
      exact ⟨l, by rw [h2]; exact hl⟩)
     refine ⟨ls.flatten, ?_, ?_⟩
     ·unfold Program.keyLits
      rw [h1]
      simp only [hcl, h3, if_true, hls, Option.map_some]
     ·obtain ⟨g1, g2⟩ := mapM_some hls
      simp only [List.length_range] at g1
      have : ls.flatten.map Lit.value = (ls.map (List.map Lit.value)).flatten := by rw [List.map_flatten]
      rw [this]
      have hpc : ∀ l ∈ ls.map (List.map Lit.value), l.length = u.size := fun l hl => by
       obtain ⟨l', hl', rfl⟩ := List.mem_map.1 hl
       obtain ⟨i, hi⟩ := List.mem_iff_getElem?.1 hl'
       have hlt : i < n := by rw [← g1]; exact (List.getElem?_eq_some_iff.1 hi).1
       obtain ⟨y, hy, hk'⟩ := g2 i i (by simp [hlt])
       rw [hi] at hy; cases hy
       obtain ⟨l2, hl2, hv⟩ := key i hlt
       rw [h2, hl2] at hk'; cases hk'
       rw [hv, List.length_take, List.length_drop, hcl]
       have : (i + 1) * u.size ≤ n * u.size := Nat.mul_le_mul_right _ hlt
       rw [Nat.add_mul] at this
       omega
      have hlen : (ls.map (List.map Lit.value)).flatten.length = n * u.size := by
       have : ∀ (L : List (List Value)), (∀ l ∈ L, l.length = u.size) → L.flatten.length = L.length * u.size := by
        intro L
        induction L with
        | nil => simp
        | cons a L ih =>
         intro h
         rw [List.flatten_cons, List.length_append, ih (fun l hl => h l (by simp [hl])), h a (by simp), List.length_cons, Nat.add_mul]
         omega
       rw [this _ hpc, List.length_map, g1]
      refine List.ext_getElem? fun j => ?_
      by_cases hj : j < cs.length
      ·have hp : 0 < u.size := by
        rcases Nat.eq_zero_or_pos u.size with h0 | h0
        ·rw [hcl, h0] at hj; simp at hj
        ·exact h0
       have hq : j / u.size < n := by rw [Nat.div_lt_iff_lt_mul hp, ← hcl]; exact hj
       have hm : j % u.size < u.size := Nat.mod_lt _ hp
       obtain ⟨l2, hl2, hv⟩ := key _ hq
       obtain ⟨y, hy, hk'⟩ := g2 (j / u.size) (j / u.size) (by simp [hq])
       rw [h2, hl2] at hk'; cases hk'
       have hfp := vV u.size (ls.map (List.map Lit.value)) (j / u.size) (l2.map Lit.value) hpc (by rw [List.getElem?_map, hy]; rfl)
       have e1 := congrArg (fun l => l[j % u.size]?) (hfp.trans hv)
       simp only [List.getElem?_take, if_pos hm, List.getElem?_drop, Nat.div_add_mod' j u.size] at e1
       exact e1
      ·rw [List.getElem?_eq_none (by rw [hlen, ← hcl]; omega), List.getElem?_eq_none (by omega)]) (fun _ _ h => h)
 | .pair a b, hf => by
  simp only [jW, Bool.and_eq_true] at hf
  have ha := nw a hf.1
  have hb := nw b hf.2
  have F : LB P S w (.pair a b) := by
   intro m fs o h hk cs x hx hl d hd
   obtain ⟨l1, l2, e, r1, r2⟩ := hx
   have n1 := r1.len
   have n2 := r2.len
   simp only [dN] at hd
   simp only [Ty.size] at hl
   have c1 : (cs.drop o).take a.size = l1 := by rw [e, List.take_left' n1]
   have c2 : cs.drop (o + a.size) = l2 := by rw [← List.drop_drop, e, List.drop_left' n1]
   match fs, h with
   | [f, g], h =>
    obtain ⟨h1, h2, h3, h4, h5, h6⟩ := h
    obtain ⟨la, e1, v1⟩ := ha.1 m _ h3 (hk f (by simp)) l1 _ r1 d (by omega)
    obtain ⟨lb, e2, v2⟩ := hb.1 m _ h6 (hk g (by simp)) l2 _ r2 d (by omega)
    have c3 : (cs.drop (o + a.size)).take b.size = l2 := by rw [c2, List.take_of_length_le (by omega)]
    refine ⟨[la, lb], ?_, ?_⟩
    ·simp only [List.mapM_cons, List.mapM_nil, h1, h2, h4, h5, c1, c3, e1, e2]
     rfl
    ·rw [e]; simp [v1, v2]
   | f :: g :: k :: r, h =>
    obtain ⟨h1, h2, h3, h4⟩ := h
    obtain ⟨la, e1, v1⟩ := ha.1 m _ h3 (hk f (by simp)) l1 _ r1 d (by omega)
    obtain ⟨ls, e2, v2⟩ := hb.2 m _ _ h4 (fun f hf => hk f (by simp [hf])) cs x.2 (by rw [c2]; exact r2) (by omega) d (by omega)
    refine ⟨la :: ls, ?_, ?_⟩
    ·rw [List.mapM_cons, h1, h2, c1, e1, e2]; rfl
    ·rw [e, List.flatten_cons, List.map_append, v1, v2, c2]
   | [], h => exact h.elim
   | [_], h => exact h.elim
  refine ⟨fun m t ht hk cs x hx d hd => ?_, F⟩
  obtain ⟨fs, h1, h2, h3⟩ := ht
  have hlen := hx.len
  cases m with
  | zero => simp [Program.keyTypeAt] at hk
  | succ m =>
   unfold Program.keyTypeAt at hk
   rw [h1] at hk
   simp only [Bool.and_eq_true, Array.all_eq_true_iff_forall_mem] at hk
   cases d with
   | zero => simp [dN] at hd
   | succ d =>
    have hk' : ∀ f ∈ fs.toList, P.keyTypeAt m f.type = true := fun f hf => by
     have := hk.1.1 f (Array.mem_toList_iff.1 hf)
     exact this.2
    obtain ⟨ls, e1, e2⟩ := F m fs.toList 0 h3 hk' cs x (by simpa using hx) (by rw [hlen]; simp [Ty.size]) d hd
    refine ⟨ls.flatten, ?_, by simpa using e2⟩
    unfold Program.keyLits
    rw [h1]
    have hnm : fs.all (·.name != "_") = true := Array.all_eq_true_iff_forall_mem.2 fun f hf => (hk.1.1 f hf).1
    have hcl : cs.length = P.cellsOf t := by rw [hlen, h2]; rfl
    simp only [hcl, hnm, and_self, if_true, e1, Option.map_some]
 | .err, hf => by cases hf

theorem EV {u : Ty} {t : TypeId} {m : Nat} (hu : Nn P u t) (hf : jW u = true) (hk : P.keyTypeAt m t = true) (hm : m ≤ 10000) (hg : u.agg = true) {cs ds : Array Value} {x y : u.D}
  (hx : Rd S w u cs.toList x) (hy : Rd S w u ds.toList y) : (Op.equal t (.agg cs) (.agg ds)).run P w = .ok (ya u x y) w := by
 obtain ⟨l1, e1, v1⟩ := (nw u hf).1 m t hu hk _ x hx (dN u) (Nat.le_refl _)
 obtain ⟨l2, e2, v2⟩ := (nw u hf).1 m t hu hk _ y hy (dN u) (Nat.le_refl _)
 have form : ∀ (cs : Array Value) (x : u.D), Rd S w u cs.toList x → (Value.agg cs).formed P t = true := by
  intro cs x hx
  have hl := hx.len
  simp only [Array.length_toList] at hl
  cases u with
  | arr n u => obtain ⟨e, h1, h2, h3, h4⟩ := hu; simp only [Value.formed, h1, hl, h3, Ty.size, beq_self_eq_true]
  | pair a b => obtain ⟨e, h1, h2, h3⟩ := hu; simp only [Value.formed, h1, hl, h2, Ty.size, beq_self_eq_true]
  | _ => cases hg
 obtain ⟨r, hr, hiff⟩ := run_equalIn_deep (10000 - m) m t hk w _ _ (.agg cs) (.agg ds) l1 l2 (form cs x hx) (form ds y hy) e1 e2
 have e3 : r = ya u x y := by
  rw [Bool.eq_iff_iff, hiff, rq]
  constructor
  ·intro e
   have : cs.toList = ds.toList := by rw [← v1, ← v2, e]
   exact Rd.fun hf hx (this ▸ hy)
  ·intro e
   subst e
   have : cs.toList = ds.toList := Rd.cells hf hx hy
   rw [this, e2] at e1
   exact (Option.some.inj e1).symm
 rw [← e3]
 unfold Op.equal
 rw [show Op.maxDepth = 10000 - m + m by show 10000 = _; omega]
 exact hr
end
end Go.Sx
/-
 Sx, part B: abstract values and states, and when a frame and a world of the model are as an abstract state says.
-/
namespace Go.Sx
open Go.RowKit

inductive PV where
 | any
 | d (t : Ty) (x : t.D)
 | lit (b : Bool)
 | aC (v : Value)
 | row (k : Nat)
 | ptr (k off : Nat)
 | pV (k off n sz i j : Nat)
 | rel (k sz i j : Nat)
 | wG (k sz i j n sz' i' j' : Nat)
 | zz (t : Ty) (x : t.D)
 | jP (k : Nat)
 | sub (k k' sz a b : Nat)
 | tu (k off n sz : Nat)

inductive SV where
 | one (p : PV)
 | agg (ps : List PV)
 | gB (vs : List (Bool × List PV))
 | lT (b : Bool) (p : PV)

inductive HE where
 | box (ps : List PV)
 | row (t : Ty) (xs : List t.D)
 | jP (f : FuncId) (caps : List PV)
 | map (kk : IntKind) (t : Ty) (xs : List (Int × t.D))
 | pmap (kk : IntKind) (es : List (Int × PV))

structure St where
 fr : List SV
 hp : Nat → Option HE
 us : Nat → Bool
 nx : Nat
 bk : List SV

structure Cx where
 ρ : Nat → Value
 us : Nat → Bool
 S : Nat → Prop
 w : World

def bO : Value → Option Nat
 | .pointer (some a) => some a.block
 | .slice (some a) _ _ => some a.block
 | .map (some b) => some b
 | _ => none

def iD (c : Cx) : PV → List Value → Prop
 | .any, l => ∃ v, l = [v] ∧ v.oneCell' = true
 | .d t x, l => Rd c.S c.w t l x
 | .lit b, l => l = [.bool b]
 | .aC v, l => l = [v] ∧ v.oneCell' = true
 | .row k, l => c.us k = true ∧ l = [c.ρ k] ∧ (c.ρ k).oneCell' = true
 | .ptr k off, l => c.us k = true ∧ ∃ b, c.ρ k = .pointer (some ⟨b, 0, none⟩) ∧ l = [.pointer (some ⟨b, off, none⟩)]
 | .pV k off n sz i j, l => c.us k = true ∧ i < n ∧ ∃ b, c.ρ k = .pointer (some ⟨b, 0, none⟩) ∧ l = [.pointer (some ⟨b, off + (i * sz + j), none⟩)]
 | .rel k sz i j, l => c.us k = true ∧ ∃ b o n cp, c.ρ k = .slice (some ⟨b, o, none⟩) n cp ∧ i < n ∧ l = [.pointer (some ⟨b, o + (i * sz + j), none⟩)]
 | .wG k sz i j n' sz' i' j', l => c.us k = true ∧ i' < n' ∧ ∃ b o n cp, c.ρ k = .slice (some ⟨b, o, none⟩) n cp ∧ i < n ∧ l = [.pointer (some ⟨b, o + (i * sz + (j + (i' * sz' + j'))), none⟩)]
 | .zz t x, l => ∃ b o cs, l = [.pointer (some ⟨b, o, none⟩)] ∧ c.S b ∧ Rd c.S c.w t cs x ∧ ∀ (j : Nat) v, cs[j]? = some v → c.w.cell? ⟨b, o + j, none⟩ = some v
 | .jP k, l => c.us k = true ∧ l = [c.ρ k] ∧ (c.ρ k).oneCell' = true
 | .sub k k' sz a b, l => c.us k = true ∧ c.us k' = true ∧ l = [c.ρ k'] ∧ ∃ A n cp, c.ρ k = .slice A n cp ∧ ((n = 0 ∨ ∃ bl o, A = some ⟨bl, o, none⟩) ∧ n ≤ cp) ∧ (a ≤ b ∧ b ≤ n) ∧ c.ρ k' = .slice (if cp = a then A else A.map (·.add (a * sz))) (b - a) (cp - a)
 | .tu k off n _, l => c.us k = true ∧ ∃ b, c.ρ k = .pointer (some ⟨b, 0, none⟩) ∧ l = [.slice (some ⟨b, off, none⟩) n n]

def PV.size : PV → Nat
 | .d t _ => t.size
 | _ => 1
def PV.agg : PV → Bool
 | .d t _ => t.agg
 | _ => false

theorem iD.len {c : Cx} {p : PV} {l : List Value} (h : iD c p l) : l.length = p.size := by
 cases p with
 | any => obtain ⟨v, h, _⟩ := h; rw [h]; rfl
 | d t x => exact Rd.len h
 | lit b => rw [show l = _ from h]; rfl
 | aC v => rw [h.1]; rfl
 | row k => rw [h.2.1]; rfl
 | ptr k off => obtain ⟨_, b, _, h⟩ := h; rw [h]; rfl
 | pV k off n sz i j => obtain ⟨_, _, b, _, h⟩ := h; rw [h]; rfl
 | rel k sz i j => obtain ⟨_, b, o, n, cp, _, _, h⟩ := h; rw [h]; rfl
 | wG k sz i j n' sz' i' j' => obtain ⟨_, _, b, o, n, cp, _, _, h⟩ := h; rw [h]; rfl
 | zz t x => obtain ⟨b, o, cs, h, _⟩ := h; rw [h]; rfl
 | jP k => rw [h.2.1]; rfl
 | sub k k' sz a b => rw [h.2.2.1]; rfl
 | tu k off n sz => obtain ⟨_, b, _, h⟩ := h; rw [h]; rfl

def b9 (c : Cx) : List PV → List Value → Prop
 | [], l => l = []
 | p :: ps, l => ∃ a b, l = a ++ b ∧ iD c p a ∧ b9 c ps b

def cd : List PV → Nat
 | [] => 0
 | p :: ps => p.size + cd ps

theorem b9.len {c : Cx} : ∀ {ps : List PV} {l : List Value}, b9 c ps l → l.length = cd ps
 | [], l, h => by rw [show l = [] from h]; rfl
 | p :: ps, l, h => by
  obtain ⟨a, b, e, h1, h2⟩ := h
  rw [e, List.length_append, h1.len, h2.len]; rfl

theorem b9.append {c : Cx} : ∀ {ps qs : List PV} {l m : List Value}, b9 c ps l → b9 c qs m → b9 c (ps ++ qs) (l ++ m)
 | [], _, l, m, h, h' => by rw [show l = [] from h]; exact h'
 | p :: ps, qs, l, m, h, h' => by
  obtain ⟨a, b, e, h1, h2⟩ := h
  exact ⟨a, b ++ m, by rw [e, List.append_assoc], h1, h2.append h'⟩

theorem b9.single {c : Cx} {p : PV} {l : List Value} (h : iD c p l) : b9 c [p] l := ⟨l, [], by simp, h, rfl⟩

structure Cx.le (c c' : Cx) : Prop where
 us : ∀ k, c.us k = true → c'.us k = true
 ρ : ∀ k, c.us k = true → c'.ρ k = c.ρ k
 keep : gD c.S c.w c'.S c'.w
theorem Cx.le.refl (c : Cx) : c.le c := ⟨fun _ h => h, fun _ _ => rfl, gD.refl _ _⟩
theorem Cx.le.trans {a b c : Cx} (h : a.le b) (k : b.le c) : a.le c :=
 ⟨fun x hx => k.us x (h.us x hx), fun x hx => (k.ρ x (h.us x hx)).trans (h.ρ x hx), h.keep.trans k.keep⟩

theorem Rd.one {S : Nat → Prop} {w : World} : ∀ {t : Ty} {cs : List Value} {x : t.D}, Rd S w t cs x → ∀ v ∈ cs, v.oneCell' = true
 | .int _, _, _, h => by rw [h.1]; simp [Value.oneCell']
 | .bool, _, _, h => by rw [show _ = _ from h]; simp [Value.oneCell']
 | .str, _, _, h => by rw [h.1]; simp [Value.oneCell']
 | .sl _, _, _, h => by obtain ⟨A, c, h, _⟩ := h; rw [h]; simp [Value.oneCell']
 | .pair _ _, _, _, h => by
  obtain ⟨l, m, h, h1, h2⟩ := h
  rw [h]
  intro v hv
  rcases List.mem_append.1 hv with hv | hv
  ·exact Rd.one h1 v hv
  ·exact Rd.one h2 v hv
 | .arr n t, cs, xs, h => by
  intro v hv
  obtain ⟨hl, hc, hr⟩ := h
  obtain ⟨i, hi, rfl⟩ := List.mem_iff_getElem.1 hv
  rcases Nat.eq_zero_or_pos t.size with h0 | hp
  ·rw [hc, h0] at hi; simp at hi
  ·have hq : i / t.size < xs.length := by
    rw [hl, Nat.div_lt_iff_lt_mul hp]; rw [hc] at hi; exact hi
   have hm : i % t.size < t.size := Nat.mod_lt _ hp
   have hr' := hr (i / t.size) xs[i / t.size] (by simp [hq])
   refine Rd.one hr' _ ?_
   refine List.mem_iff_getElem?.2 ⟨i % t.size, ?_⟩
   rw [List.getElem?_take, if_pos hm, List.getElem?_drop, Nat.div_add_mod' i t.size]
   simp [hi]
 | .err, _, _, h => by rcases h with ⟨_, h⟩ | ⟨_, _, _, h⟩ <;> (rw [h]; simp [Value.oneCell'])

theorem iD.one {c : Cx} {p : PV} {l : List Value} (h : iD c p l) : ∀ v ∈ l, v.oneCell' = true := by
 cases p with
 | any => obtain ⟨v, h, h'⟩ := h; rw [h]; simpa using h'
 | d t x => exact Rd.one h
 | lit b => rw [show l = _ from h]; simp [Value.oneCell']
 | aC v => rw [h.1]; simpa using h.2
 | row k => rw [h.2.1]; simpa using h.2.2
 | ptr k off => obtain ⟨_, b, _, h⟩ := h; rw [h]; simp [Value.oneCell']
 | pV k off n sz i j => obtain ⟨_, _, b, _, h⟩ := h; rw [h]; simp [Value.oneCell']
 | rel k sz i j => obtain ⟨_, b, o, n, cp, _, _, h⟩ := h; rw [h]; simp [Value.oneCell']
 | wG k sz i j n' sz' i' j' => obtain ⟨_, _, b, o, n, cp, _, _, h⟩ := h; rw [h]; simp [Value.oneCell']
 | zz t x => obtain ⟨b, o, cs, h, _⟩ := h; rw [h]; simp [Value.oneCell']
 | jP k => rw [h.2.1]; simpa using h.2.2
 | sub k k' sz a b => obtain ⟨_, _, h, A, n, cp, _, _, _, h2⟩ := h; rw [h, h2]; simp [Value.oneCell']
 | tu k off n sz => obtain ⟨_, b, _, h⟩ := h; rw [h]; simp [Value.oneCell']

theorem iD.mono {c c' : Cx} (h : c.le c') {p : PV} {l : List Value} (hp : iD c p l) : iD c' p l := by
 cases p with
 | any => exact hp
 | d t x => exact Rd.mono h.keep hp
 | lit b => exact hp
 | aC v => exact hp
 | row k => exact ⟨h.us k hp.1, by rw [h.ρ k hp.1]; exact hp.2⟩
 | ptr k off => exact ⟨h.us k hp.1, by rw [h.ρ k hp.1]; exact hp.2⟩
 | pV k off n sz i j => exact ⟨h.us k hp.1, by rw [h.ρ k hp.1]; exact hp.2⟩
 | rel k sz i j => exact ⟨h.us k hp.1, by rw [h.ρ k hp.1]; exact hp.2⟩
 | wG k sz i j n' sz' i' j' => exact ⟨h.us k hp.1, by rw [h.ρ k hp.1]; exact hp.2⟩
 | zz t x =>
  obtain ⟨b, o, cs, e, hS, hr, hc⟩ := hp
  exact ⟨b, o, cs, e, (h.keep b hS).1, Rd.mono h.keep hr, fun j v hv => (h.keep.cell hS).trans (hc j v hv)⟩
 | jP k => exact ⟨h.us k hp.1, by rw [h.ρ k hp.1]; exact hp.2⟩
 | sub k k' sz a b => exact ⟨h.us k hp.1, h.us k' hp.2.1, by rw [h.ρ k hp.1, h.ρ k' hp.2.1]; exact hp.2.2⟩
 | tu k off n sz => exact ⟨h.us k hp.1, by rw [h.ρ k hp.1]; exact hp.2⟩

theorem b9.one {c : Cx} : ∀ {ps : List PV} {l : List Value}, b9 c ps l → ∀ v ∈ l, v.oneCell' = true
 | [], l, h => by rw [show l = [] from h]; simp
 | p :: ps, l, h => by
  obtain ⟨a, b, e, h1, h2⟩ := h
  rw [e]
  intro v hv
  rcases List.mem_append.1 hv with hv | hv
  ·exact h1.one v hv
  ·exact h2.one v hv

theorem b9.mono {c c' : Cx} (h : c.le c') : ∀ {ps : List PV} {l : List Value}, b9 c ps l → b9 c' ps l
 | [], _, hp => hp
 | _ :: _, _, ⟨a, b, e, h1, h2⟩ => ⟨a, b, e, h1.mono h, h2.mono h⟩

def dW (c : Cx) (agg : Bool) (ps : List PV) (v : Value) : Prop :=
 match agg with
 | true => ∃ cs, v = .agg cs ∧ b9 c ps cs.toList
 | false => b9 c ps [v]
def qT (c : Cx) : List (Bool × List PV) → List Value → Prop
 | [], vs => vs = []
 | e :: es, vs => ∃ v r, vs = v :: r ∧ dW c e.1 e.2 v ∧ qT c es r
def Gz (c : Cx) : PV → Value → Prop
 | .any, _ => True
 | p, v => dW c p.agg [p] v
def aK (c : Cx) : SV → Value → Prop
 | .one p, v => Gz c p v
 | .lT b p, v => (b = true → Gz c p v) ∧ (b = false → v = undef)
 | .agg ps, v => dW c true ps v
 | .gB es, v => ∃ vs, v = .tuple vs ∧ qT c es vs.toList

theorem dW.mono {c c' : Cx} (h : c.le c') {g : Bool} {ps : List PV} {v : Value} (hp : dW c g ps v) : dW c' g ps v := by
 cases g
 ·exact b9.mono h hp
 ·obtain ⟨cs, e, hp⟩ := hp; exact ⟨cs, e, hp.mono h⟩
theorem qT.mono {c c' : Cx} (h : c.le c') : ∀ {es : List (Bool × List PV)} {vs : List Value}, qT c es vs → qT c' es vs
 | [], _, hp => hp
 | _ :: _, _, ⟨v, r, e, h1, h2⟩ => ⟨v, r, e, h1.mono h, h2.mono h⟩
theorem Gz.mono {c c' : Cx} (h : c.le c') {p : PV} {v : Value} (hs : Gz c p v) : Gz c' p v := by
 cases p with
 | any => trivial
 | d t x => exact dW.mono (g := t.agg) (ps := [.d t x]) h hs
 | lit b => exact dW.mono (g := false) (ps := [.lit b]) h hs
 | aC u => exact dW.mono (g := false) (ps := [.aC u]) h hs
 | row k => exact dW.mono (g := false) (ps := [.row k]) h hs
 | ptr k o => exact dW.mono (g := false) (ps := [.ptr k o]) h hs
 | pV k o n sz i j => exact dW.mono (g := false) (ps := [.pV k o n sz i j]) h hs
 | rel k sz i j => exact dW.mono (g := false) (ps := [.rel k sz i j]) h hs
 | wG k sz i j n' sz' i' j' => exact dW.mono (g := false) (ps := [.wG k sz i j n' sz' i' j']) h hs
 | zz t x => exact dW.mono (g := false) (ps := [.zz t x]) h hs
 | jP k => exact dW.mono (g := false) (ps := [.jP k]) h hs
 | sub k k' sz a b => exact dW.mono (g := false) (ps := [.sub k k' sz a b]) h hs
 | tu k off n sz => exact dW.mono (g := false) (ps := [.tu k off n sz]) h hs
theorem aK.mono {c c' : Cx} (h : c.le c') {s : SV} {v : Value} (hs : aK c s v) : aK c' s v := by
 cases s with
 | one p => exact Gz.mono h hs
 | lT b p => exact ⟨fun e => Gz.mono h (hs.1 e), hs.2⟩
 | agg ps => exact dW.mono (g := true) (ps := ps) h hs
 | gB es => obtain ⟨vs, e, hs⟩ := hs; exact ⟨vs, e, hs.mono h⟩

def iP (c : Cx) (kk : IntKind) (t : Ty) : List MapEntry → List (Int × t.D) → Prop
 | [], [] => True
 | e :: es, x :: xs => (e.key = .int kk x.1 ∧ IR kk x.1 ∧ Rd c.S c.w t [e.val] x.2) ∧ iP c kk t es xs
 | _, _ => False
def pB (c : Cx) (kk : IntKind) : List MapEntry → List (Int × PV) → Prop
 | [], [] => True
 | e :: es, x :: xs => (e.key = .int kk x.1 ∧ x.2.agg = false ∧ iD c x.2 [e.val]) ∧ pB c kk es xs
 | _, _ => False
theorem iP.mono {c c' : Cx} (h : c.le c') {kk : IntKind} {t : Ty} : ∀ {es : List MapEntry} {xs : List (Int × t.D)}, iP c kk t es xs → iP c' kk t es xs
 | [], [], _ => trivial
 | _ :: _, _ :: _, ⟨⟨h1, h2, h3⟩, h4⟩ => ⟨⟨h1, h2, Rd.mono h.keep h3⟩, h4.mono h⟩
 | [], _ :: _, h' => h'.elim
 | _ :: _, [], h' => h'.elim
theorem pB.mono {c c' : Cx} (h : c.le c') {kk : IntKind} : ∀ {es : List MapEntry} {xs : List (Int × PV)}, pB c kk es xs → pB c' kk es xs
 | [], [], _ => trivial
 | _ :: _, _ :: _, ⟨⟨h1, h2, h3⟩, h4⟩ => ⟨⟨h1, h2, iD.mono h h3⟩, h4.mono h⟩
 | [], _ :: _, h' => h'.elim
 | _ :: _, [], h' => h'.elim
def rv (c : Cx) (k : Nat) : HE → Prop
 | .box ps => ∃ b e cs, c.ρ k = .pointer (some ⟨b, 0, none⟩) ∧ c.w.heap[b]? = some (.cells cs e (0, 0)) ∧ b9 c ps cs.toList
 | .row t xs => (c.ρ k = .slice none 0 0 ∧ xs = []) ∨
   ∃ b o cp cur e, c.ρ k = .slice (some ⟨b, o, none⟩) xs.length cp ∧ c.w.heap[b]? = some (.cells cur e (0, 0)) ∧ xs.length ≤ cp ∧ cp ≤ maxLen ∧
    o + cp * t.size ≤ cur.size ∧ ∀ (i : Nat) x, xs[i]? = some x → Rd c.S c.w t ((cur.toList.drop (o + i * t.size)).take t.size) x
 | .jP f caps => ∃ vs, c.ρ k = .func (.func f) #[] vs ∧ b9 c caps vs.toList ∧ caps.length = vs.size ∧ ∀ p ∈ caps, p.agg = false
 | .map kk t xs => ∃ b es clock, c.ρ k = .map (some b) ∧ c.w.heap[b]? = some (.map es clock) ∧ iP c kk t es.toList xs
 | .pmap kk xs => ∃ b es clock, c.ρ k = .map (some b) ∧ c.w.heap[b]? = some (.map es clock) ∧ pB c kk es.toList xs

theorem rv.mono {c c' : Cx} (h : c.le c') {k : Nat} {he : HE} (hk : c.us k = true)
  (hb : ∀ b, bO (c.ρ k) = some b → c'.w.heap[b]? = c.w.heap[b]?) (hp : rv c k he) : rv c' k he := by
 cases he with
 | box ps =>
  obtain ⟨b, e, cs, h1, h2, h3⟩ := hp
  exact ⟨b, e, cs, (h.ρ k hk).trans h1, (hb b (by rw [h1]; rfl)).trans h2, h3.mono h⟩
 | row t xs =>
  rcases hp with ⟨h1, h2⟩ | ⟨b, o, cp, cur, e, h1, h2, h3, h4, h5, h6⟩
  ·exact .inl ⟨(h.ρ k hk).trans h1, h2⟩
  ·exact .inr ⟨b, o, cp, cur, e, (h.ρ k hk).trans h1, (hb b (by rw [h1]; rfl)).trans h2, h3, h4, h5, fun i x hi => Rd.mono h.keep (h6 i x hi)⟩
 | jP f caps =>
  obtain ⟨vs, h1, h2, h3⟩ := hp
  exact ⟨vs, (h.ρ k hk).trans h1, h2.mono h, h3⟩
 | map kk t xs =>
  obtain ⟨b, es, cl, h1, h2, h3⟩ := hp
  exact ⟨b, es, cl, (h.ρ k hk).trans h1, (hb b (by rw [h1]; rfl)).trans h2, h3.mono h⟩
 | pmap kk xs =>
  obtain ⟨b, es, cl, h1, h2, h3⟩ := hp
  exact ⟨b, es, cl, (h.ρ k hk).trans h1, (hb b (by rw [h1]; rfl)).trans h2, h3.mono h⟩

def aF : List SV → Nat → SV
 | [], _ => .one .any
 | x :: _, 0 => x
 | _ :: xs, n + 1 => aF xs n
def jI : List SV → Nat → SV → List SV
 | [], _, _ => []
 | _ :: xs, 0, v => v :: xs
 | x :: xs, n + 1, v => x :: jI xs n v
theorem dF : ∀ (l : List SV) (n : Nat) (v : SV), (jI l n v).length = l.length
 | [], _, _ => rfl
 | _ :: _, 0, _ => rfl
 | _ :: xs, n + 1, v => by simp [jI, dF xs n v]
theorem gw : ∀ (l : List SV) (n m : Nat) (v : SV), n ≠ m → aF (jI l n v) m = aF l m
 | [], _, _, _, _ => rfl
 | _ :: _, 0, 0, _, h => absurd rfl h
 | _ :: _, 0, _ + 1, _, _ => rfl
 | _ :: _, _ + 1, 0, _, _ => rfl
 | _ :: xs, n + 1, m + 1, v, h => gw xs n m v (fun e => h (by rw [e]))
theorem gk : ∀ (l : List SV) (n : Nat) (v : SV), aF (jI l n v) n = if n < l.length then v else .one .any
 | [], _, _ => by simp [jI, aF]
 | _ :: _, 0, _ => by simp [jI, aF]
 | _ :: xs, n + 1, v => by
  have := gk xs n v
  simp [jI, aF, this]
def St.put (s : St) : Option Nat → SV → St
 | none, _ => s
 | some d, v => { s with fr := jI s.fr d v }

inductive Gl where
 | u8 (l : List Nat)
 | u64 (l : List Int)
 | num
 | err
def Gl.ok (w : World) (g : Nat) : Gl → Prop
 | .u8 l => ∀ j, j < l.length → w.cell? ⟨g, j, none⟩ = some (.int .u8 (l.getD j 0))
 | .u64 l => ∃ e fz, w.heap[g]? = some (.cells (l.map fun z => Value.int .u64 z).toArray e fz)
 | .num => ∃ m, w.cell? ⟨g, 0, none⟩ = some (.int .i64 m)
 | .err => ∃ tp p, w.cell? ⟨g, 0, none⟩ = some (.iface tp p)
def qe : List (Nat × Gl) := [(0, .num), (1, .u64 Lib.pow10Tab), (2, .err), (3, .err), (5, .u8 Lib.deBruijn64tab)]
def qC (w : World) : Prop := ∀ q ∈ qe, q.1 < w.heap.size ∧ q.2.ok w q.1
theorem y9 {w w' : World} {g : Nat} (hb : w'.heap[g]? = w.heap[g]?) (j : Nat) : w'.cell? ⟨g, j, none⟩ = w.cell? ⟨g, j, none⟩ := by
 unfold World.cell?
 simp only [hb]
theorem Gl.Md {w w' : World} {g : Nat} (hb : w'.heap[g]? = w.heap[g]?) : ∀ x : Gl, x.ok w g → x.ok w' g
 | .u8 _, h => fun j hj => (y9 hb j).trans (h j hj)
 | .u64 _, ⟨e, fz, h⟩ => ⟨e, fz, hb.trans h⟩
 | .num, ⟨m, h⟩ => ⟨m, (y9 hb 0).trans h⟩
 | .err, ⟨tp, p, h⟩ => ⟨tp, p, (y9 hb 0).trans h⟩
theorem qC.below {w w' : World} (h : qC w) (hb : Below w.heap.size w w') : qC w' := fun q hq => by
 obtain ⟨h1, h2⟩ := h q hq
 exact ⟨Nat.lt_of_lt_of_le h1 hb.size, Gl.Md (hb.block q.1 h1) q.2 h2⟩
structure cz where
 w : World
 S : Nat → Prop
 all : ∀ b, w.heap.size ≤ b → S b
 bv : List Value
 gl : qC w
def dE (w0 : cz) (ρ : Nat → Value) (hp : Nat → Option HE) (w : World) (b : Nat) : Prop :=
 b < w.heap.size ∧ (∀ k he, hp k = some he → bO (ρ k) ≠ some b) ∧ w0.S b

def cx (w0 : cz) (ρ : Nat → Value) (s : St) (w : World) : Cx := ⟨ρ, s.us, dE w0 ρ s.hp w, w⟩

structure Ok (w0 : cz) (ρ : Nat → Value) (s : St) (a : Act) (w : World) : Prop where
 defers : a.defers = []
 below : Below w0.w.heap.size w0.w w
 len : s.fr.length = a.tmps.size
 frame : ∀ i, aK (cx w0 ρ s w) (aF s.fr i) (a.tmps.getD i undef)
 back : ∀ i, aK (cx w0 ρ s w) (aF s.bk i) (w0.bv.getD i undef)
 heap : ∀ k he, s.hp k = some he → rv (cx w0 ρ s w) k he
 used : ∀ k he, s.hp k = some he → s.us k = true
 fresh : ∀ k he b, s.hp k = some he → bO (ρ k) = some b → w0.w.heap.size ≤ b ∧ b < w.heap.size
 apart : ∀ k k' he he' b, k ≠ k' → s.hp k = some he → s.hp k' = some he' → bO (ρ k) = some b → bO (ρ k') ≠ some b

theorem Ok.gl {w0 : cz} {ρ : Nat → Value} {s : St} {a : Act} {w : World} (h : Ok w0 ρ s a w) : qC w := w0.gl.below h.below
theorem Ok.base {w0 : cz} {ρ : Nat → Value} {s : St} {a : Act} {w : World} (h : Ok w0 ρ s a w) : w0.w.heap.size ≤ w.heap.size := h.below.size

theorem kz {c : Cx} (v : Value) : aK c (.one .any) v := trivial

theorem Ok.put {w0 : cz} {ρ : Nat → Value} {s : St} {a : Act} {w : World} (h : Ok w0 ρ s a w) (d : Option Nat) {v : SV} {u : Value}
  (hv : aK (cx w0 ρ s w) v u) : Ok w0 ρ (s.put d v) (a.put d u) w := by
 cases d with
 | none => exact h
 | some d =>
  refine { h with len := ?_, frame := ?_ }
  ·simp [St.put, Act.put, dF, h.len]
  ·intro i
   show aK (cx w0 ρ s w) (aF (jI s.fr d v) i) ((a.tmps.setIfInBounds d u).getD i undef)
   by_cases e : d = i
   ·subst e
    rw [gk]
    by_cases hd : d < s.fr.length
    ·rw [if_pos hd]
     have hd' : d < a.tmps.size := by rw [← h.len]; exact hd
     simpa [Array.getD, hd'] using hv
    ·rw [if_neg hd]; trivial
   ·rw [gw _ _ _ _ e]
    have := h.frame i
    have e2 : (a.tmps.setIfInBounds d u).getD i undef = a.tmps.getD i undef := by
     simp [Array.getElem?_setIfInBounds_ne e]
    rw [e2]; exact this

theorem Ok.move {w0 : cz} {ρ ρ' : Nat → Value} {s s' : St} {a : Act} {w w' : World} (h : Ok w0 ρ s a w) (hfr : s'.fr = s.fr) (hbk : s'.bk = s.bk)
  (hle : (cx w0 ρ s w).le (cx w0 ρ' s' w')) (hb : Below w0.w.heap.size w w')
  (heap : ∀ k he, s'.hp k = some he → rv (cx w0 ρ' s' w') k he)
  (used : ∀ k he, s'.hp k = some he → s'.us k = true)
  (fresh : ∀ k he b, s'.hp k = some he → bO (ρ' k) = some b → w0.w.heap.size ≤ b ∧ b < w'.heap.size)
  (apart : ∀ k k' he he' b, k ≠ k' → s'.hp k = some he → s'.hp k' = some he' → bO (ρ' k) = some b → bO (ρ' k') ≠ some b) :
  Ok w0 ρ' s' a w' :=
 {defers := h.defers, below := h.below.trans hb, len := by rw [hfr]; exact h.len, frame := fun i => by rw [hfr]; exact (h.frame i).mono hle, back := fun i => by rw [hbk]; exact (h.back i).mono hle,
  heap, used, fresh, apart }
end Go.Sx
/-
 Sx, part C: the executor: what one operation makes of an abstract state, and what must hold for that.
-/
namespace Go.Sx

inductive TK where
 | scalar (d : TypeDesc)
 | slice (elem : TypeId)
 | arr (n : Nat) (elem : TypeId)
 | struct (fields : List (Nat × TypeId))
structure TI where
 size : Nat
 bytes : Nat
 kind : TK
 zero : List PV
 ty : Option Ty
structure Env where
 VB : List (Nat × TI)
 eqs : List (Nat × Ty)
def L8 : List (Nat × TI) → TypeId → Option TI
 | [], _ => none
 | (k, i) :: r, t => bif Nat.beq k t then some i else L8 r t
def N8 : List (Nat × Ty) → TypeId → Option Ty
 | [], _ => none
 | (k, i) :: r, t => bif Nat.beq k t then some i else N8 r t
def Env.info (E : Env) (t : TypeId) : Option TI := L8 E.VB t
def Env.eq? (E : Env) (t : TypeId) : Option Ty := N8 E.eqs t
def TK.agg : TK → Bool
 | .arr _ _ => true
 | .struct _ => true
 | _ => false

def cn : (t : Ty) → t.D → List PV
 | .pair a b, x => cn a x.1 ++ cn b x.2
 | .int k, x => [.d (.int k) x]
 | .bool, x => [.d .bool x]
 | .str, x => [.d .str x]
 | .sl t, x => [.d (.sl t) x]
 | .arr n t, x => [.d (.arr n t) x]
 | .err, x => [.d .err x]
def PV.parts : PV → List PV
 | .d t x => cn t x
 | p => [p]
def hY : List PV → List PV
 | [] => []
 | p :: ps => p.parts ++ hY ps
def SV.parts : SV → Option (List PV)
 | .one .any => none
 | .one p => some p.parts
 | .agg ps => some (hY ps)
 | .gB _ => none
 | .lT _ _ => none

def takeN : List PV → Nat → Option (List PV × List PV)
 | ps, 0 => some ([], ps)
 | [], _ + 1 => none
 | p :: ps, n + 1 => bif Nat.ble p.size (n + 1) && Nat.blt 0 p.size then
   (match takeN ps (n + 1 - p.size) with
    | some (a, b) => some (p :: a, b)
    | none => none) else none
termination_by structural ps => ps
def Dc (ps : List PV) (off n : Nat) : Option (List PV × List PV × List PV) :=
 match takeN ps off with
 | some (a, r) => (match takeN r n with
  | some (m, b) => some (a, m, b)
  | none => none)
 | none => none

def lX (t' t : Ty) (x : t'.D) : Option t.D := if h : t' = t then some (h ▸ x) else none
def R5 (t : Ty) : List PV → Option (t.D × List PV)
 | .d t' x :: r => (match lX t' t x with
  | some y => some (y, r)
  | none => none)
 | _ => none
def QH : List PV → Option (Bool × List PV)
 | .lit b :: r => some (b, r)
 | _ => none
def Pd : List PV → Option (List PV)
 | .aC (.slice none 0 0) :: r => some r
 | _ => none
def IQ : List PV → Option (Bool × List PV)
 | .aC .nilIface :: r => some (false, r)
 | .d .err x :: r => some ((x : Bool), r)
 | _ => none
def Lu : (t : Ty) → List PV → Option (t.D × List PV)
 | .int k, ps => R5 (.int k) ps
 | .bool, ps => (match QH ps with
  | some (b, r) => some (b, r)
  | none => R5 .bool ps)
 | .str, ps => R5 .str ps
 | .sl t, ps => (match Pd ps with
  | some r => some ([], r)
  | none => R5 (.sl t) ps)
 | .arr n t, ps => R5 (.arr n t) ps
 | .pair a b, ps => (match Lu a ps with
  | some (x, r) => (match Lu b r with
   | some (y, r') => some ((x, y), r')
   | none => none)
  | none => none)
 | .err, ps => IQ ps
def kU (t : Ty) (ps : List PV) : Option t.D := match Lu t ps with
 | some (x, []) => some x
 | _ => none

def Sw : IntKind → Int → Bool
 | .i64, n => decide (-9223372036854775808 ≤ n) && decide (n ≤ 9223372036854775807)
 | .u64, n => decide (0 ≤ n) && decide (n ≤ 18446744073709551615)
 | .i32, n => decide (-2147483648 ≤ n) && decide (n ≤ 2147483647)
 | .u32, n => decide (0 ≤ n) && decide (n ≤ 4294967295)
 | .i16, n => decide (-32768 ≤ n) && decide (n ≤ 32767)
 | .u16, n => decide (0 ≤ n) && decide (n ≤ 65535)
 | .i8, n => decide (-128 ≤ n) && decide (n ≤ 127)
 | .u8, n => decide (0 ≤ n) && decide (n ≤ 255)
theorem JP {k : IntKind} {n : Int} (h : Sw k n = true) : IR k n := by
 cases k <;> simpa [Sw, IR] using h
def rf : Value → SV
 | .int k n => bif Sw k n then .one (.d (.int k) n) else .one .any
 | .bool b => .one (.lit b)
 | .string s => bif Nat.ble s.size 9223372036854775807 then .one (.d .str (ofStr s)) else .one .any
 | .agg _ => .one .any
 | .tuple _ => .one .any
 | v => .one (.aC v)
def ev (s : St) : Operand → SV
 | .tmp t => aF s.fr t
 | .const v => rf v
 | .global _ => .one .any
 | .func f => .one (.aC (.func (.func f) #[] #[]))

def fK (hp : Nat → Option HE) (k : Nat) (he : Option HE) : Nat → Option HE := fun n => bif Nat.beq n k then he else hp n
def uset (us : Nat → Bool) (k : Nat) : Nat → Bool := fun n => bif Nat.beq n k then true else us n
def St.new (s : St) (k : Nat) (he : HE) : St := { s with hp := fK s.hp k (some he), us := uset s.us k }
def St.fY (s : St) (k : Nat) (he : HE) : St := { s with hp := fK s.hp k (some he) }
def St.drop (s : St) (k : Nat) : St := { s with hp := fK s.hp k none }

abbrev mM := Option (Option Prop × St)
@[reducible] def l6 : Option Prop → Prop
 | none => True
 | some q => q
def ok (s : St) : mM := some (none, s)


def RP : BinOp → Int → Int → Option Bool
 | .eql, x, y => some (x == y)
 | .neq, x, y => some (x != y)
 | .lss, x, y => some (decide (x < y))
 | .leq, x, y => some (decide (x ≤ y))
 | .gtr, x, y => some (decide (y < x))
 | .geq, x, y => some (decide (y ≤ x))
 | _, _, _ => none
def arith (wr : Bool) : BinOp → IntKind → Int → Int → Option (Option Prop × Int)
 | .add, k, x, y => some (bif wr then (none, k.wrap (x + y)) else (some (IR k (x + y)), x + y))
 | .sub, k, x, y => some (bif wr then (none, k.wrap (x - y)) else (some (IR k (x - y)), x - y))
 | .mul, k, x, y => some (bif wr then (none, k.wrap (x * y)) else (some (IR k (x * y)), x * y))
 | .quo, _, x, y => some (some (0 ≤ x ∧ 0 < y), x / y)
 | .rem, _, x, y => some (some (0 ≤ x ∧ 0 < y), x % y)
 | .and, k, x, y => some (none, bits .and k x y)
 | .or, k, x, y => some (none, bits .or k x y)
 | .xor, k, x, y => some (none, bits .xor k x y)
 | .andNot, k, x, y => some (none, bits .andNot k x y)
 | _, _, _, _ => none

def CV : BinOp → Bool → Bool → Option Bool
 | .eql, x, y => some (x == y)
 | .neq, x, y => some (x != y)
 | _, _, _ => none
def asBool? : SV → Option Bool
 | .one (.lit b) => some b
 | .one (.d .bool b) => some b
 | _ => none
def asInt? : SV → Option (IntKind × Int)
 | .one (.d (.int k) n) => some (k, n)
 | _ => none

def rn (E : Env) (t : TypeId) : Bool := match E.info t with
 | some ⟨_, _, .scalar .bool, _, _⟩ => true
 | _ => false
def de (E : Env) (t : TypeId) : Bool := match E.info t with
 | some ⟨_, _, .scalar .string, _, _⟩ => true
 | _ => false
def asStr? : SV → Option (List Int)
 | .one (.d .str l) => some l
 | _ => none
def vL (op : BinOp) (k : IntKind) (x y : Int) : Option (Option Prop × Int) :=
 match op with
 | .shl => some (some (0 ≤ y), k.wrap (x * 2 ^ (min y.toNat k.bits)))
 | .shr => some (some (0 ≤ y), x / 2 ^ (min y.toNat k.bits))
 | _ => none
def Ds (op : BinOp) (a b : List Int) : Option (Option Prop × PV) :=
 match op with
 | .add => some (some (a.length + b.length ≤ 9223372036854775807), .d .str (a ++ b))
 | .eql => some (none, .d .bool (decide (a = b)))
 | .neq => some (none, .d .bool (!(decide (a = b))))
 | _ => none
def SV.isAgg : SV → Bool
 | .agg _ => true
 | .one p => p.agg
 | _ => false
def Vx (E : Env) (op : BinOp) (t : TypeId) (x y : SV) : Option Bool :=
 match E.eq? t with
 | some u => bif x.isAgg && y.isAgg then (match x.parts, y.parts with
  | some ps, some qs => (match kU u ps, kU u qs with
   | some a, some b => (match op with
    | .eql => some (ya u a b)
    | .neq => some (!(ya u a b))
    | _ => none)
   | _, _ => none)
  | _, _ => none) else none
 | none => none
def JE : PV → Option Bool
 | .aC (.pointer none) => some true
 | .ptr _ _ => some false
 | .pV _ _ _ _ _ _ => some false
 | .rel _ _ _ _ => some false
 | .wG _ _ _ _ _ _ _ _ => some false
 | .zz _ _ => some false
 | _ => none
def Cr (E : Env) (op : BinOp) (t : TypeId) (x y : SV) : Option Bool :=
 match E.info t, x, y with
 | some ⟨_, _, .scalar (.pointer _), _, _⟩, .one p, .one (.aC (.pointer none)) => (match JE p, op with
  | some b, .eql => some b
  | some b, .neq => some (!b)
  | _, _ => none)
 | _, _, _ => none
def Co (E : Env) (op : BinOp) (t : TypeId) (x : SV) (y : Operand) : Option Bool :=
 match E.info t, x, y with
 | some ⟨_, _, .scalar (.interface _), _, _⟩, .one (.d .err a), .const .nilIface => (match op with
  | .eql => some (!(a : Bool))
  | .neq => some (a : Bool)
  | _ => none)
 | _, _, _ => none
def FX (E : Env) (wr : Bool) (s : St) (dst : Option Nat) (op : BinOp) (t : TypeId) (x y : SV) : mM :=
 match asInt? x, asInt? y with
 | some (k, a), some (k', b) => (match vL op k a b with
  | some (p, r) => some (p, s.put dst (.one (.d (.int k) r)))
  | none => if k = k' then
   (match RP op a b with
    | some r => ok (s.put dst (.one (.d .bool r)))
    | none => (match arith wr op k a b with
     | some (p, r) => some (p, s.put dst (.one (.d (.int k) r)))
     | none => none)) else none)
 | _, _ => (match asBool? x, asBool? y with
  | some a, some b => bif !(rn E t) then none else (match CV op a b with
   | some r => ok (s.put dst (.one (.d .bool r)))
   | none => none)
  | _, _ => (match asStr? x, asStr? y with
   | some a, some b => (match Ds op a b with
    | some (p, v) => some (p, s.put dst (.one v))
    | none => none)
   | _, _ => (match Vx E op t x y with
    | some b => ok (s.put dst (.one (.d .bool b)))
    | none => (match Cr E op t x y with
     | some b => ok (s.put dst (.one (.lit b)))
     | none => none))))

def sP (ps : List PV) (off n : Nat) (qs : List PV) : Option (List PV) :=
 match Dc ps off n with
 | some (a, _, b) => bif Nat.beq (cd qs) n then some (a ++ (qs ++ b)) else none
 | none => none

def E3 (agg : Bool) (ps : List PV) : Option SV :=
 bif agg then some (.agg ps) else (match ps with
  | [p] => bif p.agg then none else some (.one p)
  | _ => none)

def kB (ps : List PV) (off n sz : Nat) : Option ((t : Ty) × List t.D) :=
 match takeN ps off with
 | some (_, .d (.arr m t) xs :: _) => bif Nat.beq m n && Nat.beq t.size sz then some ⟨t, xs⟩ else none
 | _ => none
def u9 (ps : List PV) (off n sz : Nat) (t : Ty) (xs : List t.D) : Option (List PV) :=
 match takeN ps off with
 | some (a, .d (.arr m t') _ :: b) => if t' = t ∧ m = n ∧ t.size = sz then some (a ++ (.d (.arr n t) xs :: b)) else none
 | _ => none

def B6 (s : St) : SV → Option (List PV × Nat)
 | .one (.ptr k off) => (match s.hp k with
  | some (.box ps) => some (ps, off)
  | _ => none)
 | .one (.pV k off n sz i j) => (match s.hp k with
  | some (.box ps) => (match kB ps off n sz with
   | some ⟨u, xs⟩ => some (cn u (nth u xs i), j)
   | none => none)
  | _ => none)
 | .one (.rel k sz i j) => (match s.hp k with
  | some (.row u xs) => bif Nat.beq u.size sz then some (cn u (nth u xs i), j) else none
  | _ => none)
 | .one (.wG k sz i j n' sz' i' j') => (match s.hp k with
  | some (.row u xs) => bif Nat.beq u.size sz then (match kB (cn u (nth u xs i)) j n' sz' with
   | some ⟨v, ys⟩ => some (cn v (nth v ys i'), j')
   | none => none) else none
  | _ => none)
 | .one (.zz u x) => some (cn u x, 0)
 | _ => none
def xR (E : Env) (s : St) (dst : Option Nat) (t : TypeId) (addr : SV) : mM :=
 match E.info t, B6 s addr with
 | some ti, some (ps, j) => (match Dc ps j ti.size with
  | some (_, m, _) => (match E3 ti.kind.agg m with
   | some v => ok (s.put dst v)
   | none => none)
  | none => none)
 | _, _ => none

def rD (E : Env) (s : St) (t : TypeId) (addr val : SV) : mM :=
 match E.info t, val.parts with
 | some ti, some qs =>
  (match addr with
  | .one (.ptr k off) => (match s.hp k with
   | some (.box ps) => (match sP ps off ti.size qs with
    | some ps' => ok (s.fY k (.box ps'))
    | none => none)
   | _ => none)
  | .one (.pV k off n sz i j) => (match s.hp k with
   | some (.box ps) => (match kB ps off n sz with
    | some ⟨u, xs⟩ => (match sP (cn u (nth u xs i)) j ti.size qs with
     | some es => (match kU u es with
      | some y => (match u9 ps off n sz u (xs.set i y) with
       | some ps' => ok (s.fY k (.box ps'))
       | none => none)
      | none => none)
     | none => none)
    | none => none)
   | _ => none)
  | .one (.rel k sz i j) => (match s.hp k with
   | some (.row u xs) => bif Nat.beq u.size sz then
     (match sP (cn u (nth u xs i)) j ti.size qs with
     | some es => (match kU u es with
      | some y => ok (s.fY k (.row u (xs.set i y)))
      | none => none)
     | none => none) else none
   | _ => none)
  | .one (.wG k sz i j n' sz' i' j') => (match s.hp k with
   | some (.row u xs) => bif Nat.beq u.size sz then
     (match kB (cn u (nth u xs i)) j n' sz' with
     | some ⟨v, ys⟩ => (match sP (cn v (nth v ys i')) j' ti.size qs with
      | some es => (match kU v es with
       | some y => (match u9 (cn u (nth u xs i)) j n' sz' v (ys.set i' y) with
        | some ps' => (match kU u ps' with
         | some z => ok (s.fY k (.row u (xs.set i z)))
         | none => none)
        | none => none)
       | none => none)
      | none => none)
     | none => none) else none
   | _ => none)
  | _ => none)
 | _, _ => none

def Ku : (t : Ty) → t.D → (off n : Nat) → Option ((u : Ty) × u.D)
 | .pair a b, x, off, n => bif Nat.beq off 0 && Nat.beq n (a.size + b.size) then some ⟨.pair a b, x⟩
   else bif Nat.blt off a.size then Ku a x.1 off n else Ku b x.2 (off - a.size) n
 | t, x, off, n => bif Nat.beq off 0 && Nat.beq n t.size then some ⟨t, x⟩ else none

def field? (E : Env) (t : TypeId) (i : Nat) : Option (Nat × TI) :=
 match E.info t with
 | some ⟨_, _, .struct fs, _, _⟩ => (match fs[i]? with
  | some (off, ft) => (match E.info ft with
   | some fi => some (off, fi)
   | none => none)
  | none => none)
 | _ => none
def gK (E : Env) (s : St) (dst : Option Nat) (t : TypeId) (x : SV) (i : Nat) : mM :=
 match field? E t i with
 | some (fo, fi) => bif Nat.beq fi.size 0 then none else (match x with
  | .one (.ptr k off) => ok (s.put dst (.one (.ptr k (off + fo))))
  | .one (.pV k off n sz ix j) => ok (s.put dst (.one (.pV k off n sz ix (j + fo))))
  | .one (.rel k sz ix j) => ok (s.put dst (.one (.rel k sz ix (j + fo))))
  | .one (.wG k sz ix j n' sz' ix' j') => ok (s.put dst (.one (.wG k sz ix j n' sz' ix' (j' + fo))))
  | .one (.zz u y) => (match Ku u y fo fi.size with
   | some ⟨v, z⟩ => ok (s.put dst (.one (.zz v z)))
   | none => none)
  | _ => none)
 | none => none
def si (E : Env) (s : St) (dst : Option Nat) (t : TypeId) (x : SV) (i : Nat) : mM :=
 match field? E t i, x.parts with
 | some (fo, fi), some ps => bif !x.isAgg then none else (match Dc ps fo fi.size with
  | some (_, m, _) => (match E3 fi.kind.agg m with
   | some v => ok (s.put dst v)
   | none => none)
  | none => none)
 | _, _ => none

def gH (E : Env) (lit : Bool) (s : St) (dst : Option Nat) (t : TypeId) (x ix : SV) : mM :=
 match E.info t, asInt? ix with
 | some ⟨_, _, .arr n e, _, _⟩, some (_, i) => (match E.info e, x with
  | some ei, .one (.ptr k off) => bif lit then some (some (0 ≤ i ∧ i < (n : Int)), s.put dst (.one (.ptr k (off + i.toNat * ei.size)))) else
    some (some (0 ≤ i ∧ i < (n : Int)), s.put dst (.one (.pV k off n ei.size i.toNat 0)))
  | some ei, .one (.rel k sz ix j) => some (some (0 ≤ i ∧ i < (n : Int)), s.put dst (.one (.wG k sz ix j n ei.size i.toNat 0)))
  | _, _ => none)
 | some ⟨_, _, .slice e, _, _⟩, some (_, i) => (match E.info e, x with
  | some ei, .one (.row k) => (match s.hp k with
   | some (.row u xs) => bif Nat.beq u.size ei.size then some (some (0 ≤ i ∧ i < (xs.length : Int)), s.put dst (.one (.rel k ei.size i.toNat 0))) else none
   | _ => none)
  | some ei, .one (.d (.sl u) xs) => bif Nat.beq u.size ei.size then some (some (0 ≤ i ∧ i < (xs.length : Int)), s.put dst (.one (.zz u (nth u xs i.toNat)))) else none
  | some ei, .one (.sub k _ sz a b) => bif Nat.beq sz ei.size then some (some (0 ≤ i ∧ i < ((b - a : Nat) : Int)), s.put dst (.one (.rel k sz (a + i.toNat) 0))) else none
  | some ei, .one (.tu k off n sz) => bif Nat.beq sz ei.size then some (some (0 ≤ i ∧ i < (n : Int)), s.put dst (.one (.pV k off n sz i.toNat 0))) else none
  | _, _ => none)
 | _, _ => none
def rV (E : Env) (s : St) (dst : Option Nat) (t : TypeId) (x ix : SV) : mM :=
 match asStr? x with
 | some l => bif de E t then (match asInt? ix with
  | some (_, i) => some (some (0 ≤ i ∧ i < (l.length : Int)), s.put dst (.one (.d (.int .u8) (nth (.int .u8) l i.toNat))))
  | none => none) else none
 | none => match E.info t, asInt? ix with
 | some ⟨_, _, .arr n e, _, _⟩, some (_, i) => (match E.info e, x.parts with
  | some ei, some [.d (.arr m u) xs] => bif x.isAgg && Nat.beq m n && Nat.beq u.size ei.size then
    (match E3 ei.kind.agg (cn u (nth u xs i.toNat)) with
     | some v => some (some (0 ≤ i ∧ i < (n : Int)), s.put dst v)
     | none => none) else none
  | _, _ => none)
 | _, _ => none

def uV (s : St) : SV → Option ((t : Ty) × List t.D)
 | .one (.d (.sl t) xs) => some ⟨t, xs⟩
 | .one (.row k) => (match s.hp k with
  | some (.row t xs) => some ⟨t, xs⟩
  | _ => none)
 | .one (.sub k _ sz a b) => (match s.hp k with
  | some (.row t xs) => bif Nat.beq t.size sz then some ⟨t, (xs.take b).drop a⟩ else none
  | _ => none)
 | .one (.tu k off n sz) => (match s.hp k with
  | some (.box ps) => bif Nat.ble n 65536 then kB ps off n sz else none
  | _ => none)
 | _ => none
def mget? (t : Ty) : List (Int × t.D) → Int → Option t.D
 | [], _ => none
 | e :: r, k => bif decide (e.1 = k) then some e.2 else mget? t r k
def Bu (t : Ty) (xs : List (Int × t.D)) (k : Int) : t.D := match mget? t xs k with
 | some v => v
 | none => t.zero
def MM (t : Ty) (xs : List (Int × t.D)) (k : Int) : Bool := (mget? t xs k).isSome
def nh (t : Ty) : List (Int × t.D) → Int → t.D → List (Int × t.D)
 | [], k, v => [(k, v)]
 | e :: r, k, v => bif decide (e.1 = k) then (k, v) :: r else e :: nh t r k v
def vg (t : Ty) : List (Int × t.D) → Int → List (Int × t.D)
 | [], _ => []
 | e :: r, k => bif decide (e.1 = k) then r else e :: vg t r k
def pget? : List (Int × PV) → Int → Option PV
 | [], _ => none
 | e :: r, k => bif decide (e.1 = k) then some e.2 else pget? r k
def tv : List (Int × PV) → Int → PV → List (Int × PV)
 | [], k, v => [(k, v)]
 | e :: r, k, v => bif decide (e.1 = k) then (k, v) :: r else e :: tv r k v
def mapTy? (E : Env) (t : TypeId) : Option (IntKind × TI) := match E.info t with
 | some ⟨_, _, .scalar (.map kt et), _, _⟩ => (match E.info kt, E.info et with
  | some ⟨_, _, .scalar (.int kk), _, _⟩, some ei => bif ei.kind.agg then none else some (kk, ei)
  | _, _ => none)
 | _ => none
def lK (E : Env) (s : St) (k' : Nat) (dst : Option Nat) (t : TypeId) : mM :=
 match mapTy? E t with
 | some (kk, ei) => bif s.us k' then none else (match ei.ty with
  | some u => ok ((s.new k' (.map kk u [])).put dst (.one (.row k')))
  | none => ok ((s.new k' (.pmap kk [])).put dst (.one (.row k'))))
 | none => none
def mC (E : Env) (s : St) (t : TypeId) (x ix v : SV) : mM :=
 match mapTy? E t, asInt? ix, x with
 | some (kk, _), some (kk', i), .one (.row k) => bif decide (kk = kk') then (match s.hp k with
  | some (.map kk2 u xs) => bif decide (kk2 = kk') && !u.agg then (match v with
   | .one .any => none
   | .one p => bif p.agg then none else (match kU u p.parts with
    | some y => ok (s.fY k (.map kk2 u (nh u xs i y)))
    | none => none)
   | _ => none) else none
  | some (.pmap kk2 es) => bif decide (kk2 = kk') then (match v with
   | .one .any => none
   | .one p => bif p.agg then none else ok (s.fY k (.pmap kk2 (tv es i p)))
   | _ => none) else none
  | _ => none) else none
 | _, _, _ => none
def Vu (u : Ty) : Option Ty → Bool
 | some u' => decide (u = u')
 | none => false
def oX (E : Env) (s : St) (dst : Option Nat) (t : TypeId) (x ix : SV) (two : Bool) : mM :=
 match mapTy? E t, asInt? ix, x with
 | some (kk, ei), some (kk', i), .one (.row k) => bif decide (kk = kk') then (match s.hp k with
  | some (.map kk2 u xs) => bif decide (kk2 = kk') && !u.agg && Vu u ei.ty then
    (bif two then ok (s.put dst (.gB [(false, [.d u (Bu u xs i)]), (false, [.d .bool (MM u xs i)])])) else ok (s.put dst (.one (.d u (Bu u xs i))))) else none
  | _ => none) else none
 | _, _, _ => none
def plook? (E : Env) (s : St) : Op → Option (Int × List (Int × PV) × PV)
 | .lookup t x y false => (match mapTy? E t, asInt? (ev s y), ev s x with
  | some (kk, ei), some (kk', i), .one (.row k) => (match s.hp k with
   | some (.pmap kk2 es) => bif decide (kk = kk') && decide (kk2 = kk') then (match ei.zero with
    | [z] => bif z.agg then none else some (i, es, z)
    | _ => none) else none
   | _ => none)
  | _, _, _ => none)
 | _ => none
def oF (E : Env) (s : St) (dst : Option Nat) (t : TypeId) (x ix : SV) : mM :=
 match mapTy? E t, asInt? ix, x with
 | some (kk, _), some (kk', i), .one (.row k) => bif decide (kk = kk') then (match s.hp k with
  | some (.map kk2 u xs) => bif decide (kk2 = kk') then ok ((s.fY k (.map kk2 u (vg u xs i))).put dst (.gB [])) else none
  | _ => none) else none
 | _, _, _ => none
def oN (E : Env) (s : St) (dst : Option Nat) (t : TypeId) (x : SV) : mM :=
 match mapTy? E t, x with
 | some _, .one (.row k) => (match s.hp k with
  | some (.map _ _ xs) => some (some (xs.length ≤ 9223372036854775807), s.put dst (.one (.d (.int .i64) (xs.length : Int))))
  | _ => none)
 | _, _ => none
def jT (E : Env) (t : TypeId) : Bool := match E.info t with
 | some ⟨_, _, .slice _, _, _⟩ => true
 | _ => false
def Fm (E : Env) (s : St) (dst : Option Nat) (t : TypeId) (x : SV) : mM :=
 match asStr? x with
 | some l => bif de E t then ok (s.put dst (.one (.d (.int .i64) (l.length : Int)))) else none
 | none => bif !(jT E t) then none else match x with
 | .one (.aC (.slice none 0 0)) => ok (s.put dst (.one (.d (.int .i64) 0)))
 | _ => (match uV s x with
  | some ⟨_, xs⟩ => ok (s.put dst (.one (.d (.int .i64) (xs.length : Int))))
  | none => none)

def room (n bytes : Nat) : Prop := n ≤ 9223372036854775807 ∧ (n + n / 4 + 192) * bytes ≤ 281474976710656
def ox (E : Env) (s : St) (k' : Nat) (dst : Option Nat) (t : TypeId) (x y : SV) : mM :=
 match E.info t with
 | some ⟨_, _, .slice e, _, _⟩ => (match E.info e with
  | some ⟨sz, by_, _, _, some u⟩ =>
   let ys : Option (List u.D) := match y with
    | .one (.aC (.slice none 0 0)) => some []
    | _ => (match uV s y with
     | some ⟨u', ys⟩ => lX (.sl u') (.sl u) ys
     | none => none)
   bif !(Nat.beq u.size sz && Nat.blt 0 sz) || s.us k' then none else
   (match ys with
   | none => none
   | some ys => (match x with
    | .one (.aC (.slice none 0 0)) => some (some (room ys.length by_), (s.new k' (.row u ys)).put dst (.one (.row k')))
    | .one (.row k) => (match s.hp k with
     | some (.row u' xs) => (match lX (.sl u') (.sl u) xs with
      | some xs => some (some (room (xs.length + ys.length) by_), ((s.drop k).new k' (.row u (xs ++ ys))).put dst (.one (.row k')))
      | none => none)
     | _ => none)
    | _ => none))
  | _ => none)
 | _ => none

def nN : List SV → Option (List PV)
 | [] => some []
 | .one .any :: _ => none
 | .one p :: r => bif p.agg then none else (match nN r with
  | some ps => some (p :: ps)
  | none => none)
 | _ => none

def qA (place : Nat → Option (Nat × Nat)) : List PV → List (Nat × SV) → Option (List PV)
 | ps, [] => some ps
 | ps, (i, v) :: r => (match place i, v.parts with
  | some (off, n), some qs => (match sP ps off n qs with
   | some ps' => qA place ps' r
   | none => none)
  | _, _ => none)
def fieldPlace? (E : Env) (fs : List (Nat × TypeId)) (i : Nat) : Option (Nat × Nat) :=
 match fs[i]? with
 | some (off, ft) => (match E.info ft with
  | some fi => some (off, fi.size)
  | none => none)
 | none => none
def rB (u : Ty) : List u.D → List (Nat × SV) → Option (List u.D)
 | xs, [] => some xs
 | xs, (i, v) :: r => (match v.parts with
  | some ps => (match kU u ps with
   | some y => bif Nat.blt i xs.length then rB u (xs.set i y) r else none
   | none => none)
  | none => none)
def sG (E : Env) (s : St) (dst : Option Nat) (t : TypeId) (parts : List (Nat × SV)) : mM :=
 match E.info t with
 | some ⟨_, _, .struct fs, z, _⟩ => bif !(fs.all (fun f => (E.info f.2).isSome)) then none else (match qA (fieldPlace? E fs) z parts with
  | some ps => ok (s.put dst (.agg ps))
  | none => none)
 | some ⟨_, _, .arr _ e, [.d (.arr m u) xs], _⟩ => (match E.info e with
  | some ei => bif !(Nat.beq u.size ei.size) then none else (match rB u xs parts with
   | some ys => ok (s.put dst (.agg [.d (.arr m u) ys]))
   | none => none)
  | none => none)
 | _ => none
def cY (E : Env) (s : St) (k' : Nat) (dst : Option Nat) (t : TypeId) (len : Nat) (parts : List (Nat × SV)) : mM :=
 match E.info t with
 | some ⟨_, _, .slice e, _, _⟩ => (match E.info e with
  | some ⟨sz, _, _, _, some u⟩ => bif !(Nat.beq u.size sz && Nat.blt 0 sz && Nat.ble (len * sz) 65536) || s.us k' then none else
    (match rB u (List.replicate len u.zero) parts with
    | some xs => ok ((s.new k' (.row u xs)).put dst (.one (.row k')))
    | none => none)
  | _ => none)
 | _ => none
def ri : List (Nat × SV) → Option Nat
 | [] => none
 | (_, .one (.row j)) :: _ => some j
 | _ :: r => ri r
def kD (j : Nat) (u : Ty) (xs : List u.D) : SV → SV
 | .one (.row i) => bif Nat.beq i j then .one (.d (.sl u) xs) else .one (.row i)
 | v => v
def fQ (E : Env) (s : St) (k' : Nat) (dst : Option Nat) (t : TypeId) (len : Nat) (parts : List (Nat × SV)) : mM :=
 match ri parts with
 | some j => (match s.hp j with
  | some (.row u xs) => cY E (s.drop j) k' dst t len (parts.map fun p => (p.1, kD j u xs p.2))
  | _ => none)
 | none => none
def xI (E : Env) (s : St) (k' : Nat) (dst : Option Nat) (t : TypeId) (l c : SV) : mM :=
 match E.info t, asInt? l, asInt? c with
 | some ⟨_, _, .slice e, _, _⟩, some (_, n), some (_, m) => (match E.info e with
  | some ⟨sz, by_, _, _, some u⟩ => bif !(Nat.beq u.size sz && Nat.blt 0 sz) || s.us k' then none else
    some (some ((0 ≤ n ∧ n ≤ m) ∧ (m * (by_ : Int) ≤ 140737488355328 ∧ m ≤ 9223372036854775807)), (s.new k' (.row u (List.replicate n.toNat u.zero))).put dst (.one (.row k')))
  | _ => none)
 | _, _, _ => none

def aH (d : Int) : Option SV → Option Int
 | none => some d
 | some v => (match asInt? v with
  | some (_, i) => some i
  | none => none)
def cM (E : Env) (ty : TypeId) (t : Ty) : Bool := match E.info ty with
 | some ⟨_, _, .slice e, _, _⟩ => (match E.info e with
  | some ei => Nat.beq t.size ei.size
  | none => false)
 | _ => false
def mo (E : Env) (s : St) (k' : Nat) (dst : Option Nat) (ty : TypeId) (x : SV) (lo hi : Option SV) : mM :=
 match asStr? x with
 | some xs => bif de E ty then (match aH 0 lo, aH xs.length hi with
  | some l, some h => some (some ((0 ≤ l ∧ l ≤ h) ∧ h ≤ (xs.length : Int)), s.put dst (.one (.d .str ((xs.take h.toNat).drop l.toNat))))
  | _, _ => none) else none
 | none => match uV s x with
 | some ⟨t, xs⟩ => bif !(cM E ty t) then none else (match aH 0 lo, aH xs.length hi with
  | some l, some h => (match x with
   | .one (.row k) => bif s.us k' then none else
     some (some ((0 ≤ l ∧ l ≤ h) ∧ h ≤ (xs.length : Int)), ((s.drop k).new k' (.row t ((xs.take h.toNat).drop l.toNat))).put dst (.one (.row k')))
   | .one (.d _ _) => some (some ((0 ≤ l ∧ l ≤ h) ∧ h ≤ (xs.length : Int)), s.put dst (.one (.d (.sl t) ((xs.take h.toNat).drop l.toNat))))
   | _ => none)
  | _, _ => none)
 | none => none
def De (E : Env) (s : St) (k' : Nat) (dst : Option Nat) (ty : TypeId) (x : SV) (lo hi : Option SV) : mM :=
 match x with
 | .one (.row k) => (match s.hp k with
  | some (.row t xs) => bif !(cM E ty t) || s.us k' then none else (match aH 0 lo, aH xs.length hi with
   | some l, some h => some (some ((0 ≤ l ∧ l ≤ h) ∧ h ≤ (xs.length : Int)), ({ s with us := uset s.us k' }).put dst (.one (.sub k k' t.size l.toNat h.toNat)))
   | _, _ => none)
  | _ => none)
 | _ => none
def uI (E : Env) (s : St) (k' : Nat) (dst : Option Nat) (ty : TypeId) (x : SV) (lo hi : Option SV) : mM :=
 match x with
 | .one (.sub k _ sz a b) => (match s.hp k with
  | some (.row t xs) => bif !(cM E ty t && Nat.beq t.size sz && Nat.beq a 0) || s.us k' then none else (match aH 0 lo, aH b hi with
   | some l, some h => some (some ((0 ≤ l ∧ l ≤ h) ∧ h ≤ (xs.length : Int)), ({ s with us := uset s.us k' }).put dst (.one (.sub k k' sz l.toNat h.toNat)))
   | _, _ => none)
  | _ => none)
 | _ => De E s k' dst ty x lo hi
def kQ (E : Env) (s : St) (k' : Nat) (dst : Option Nat) (t : TypeId) (x y : SV) : mM :=
 match x with
 | .one (.sub k _ sz' a b) => (match E.info t with
  | some ⟨_, _, .slice e, _, _⟩ => (match E.info e with
   | some ⟨sz, _, _, _, some u⟩ => (match uV s y, s.hp k with
    | some ⟨u', ys⟩, some (.row u2 xs) => (match lX (.sl u') (.sl u) ys, lX (.sl u2) (.sl u) xs with
     | some ys, some xs => bif !(Nat.beq u.size sz && Nat.beq sz' sz && Nat.beq a 0) || s.us k' then none else
      some (some (b + ys.length ≤ xs.length), ({ s.fY k (.row u (xs.take b ++ (ys ++ xs.drop (b + ys.length)))) with us := uset s.us k' } : St).put dst (.one (.sub k k' sz' 0 (b + ys.length))))
     | _, _ => none)
    | _, _ => none)
   | _ => none)
  | _ => none)
 | _ => ox E s k' dst t x y
def r9 (E : Env) (s : St) (dst : Option Nat) (t : TypeId) (x : SV) : mM :=
 match x with
 | .one (.sub k _ sz' a b) => (match E.info t with
  | some ⟨_, _, .slice e, _, _⟩ => (match E.info e with
   | some ⟨sz, _, _, _, some u⟩ => (match s.hp k with
    | some (.row u2 xs) => (match lX (.sl u2) (.sl u) xs with
     | some xs => bif !(Nat.beq u.size sz && Nat.beq sz' sz) then none else
      ok ((s.fY k (.row u (xs.take a ++ (List.replicate (b - a) u.zero ++ xs.drop (a + (b - a)))))).put dst (.one .any))
     | none => none)
    | _ => none)
   | _ => none)
  | _ => none)
 | _ => none
def Fi (E : Env) (s : St) (dst : Option Nat) (ty : TypeId) (x : SV) (lo hi : Option SV) : mM :=
 match E.info ty, x, lo, hi with
 | some ⟨_, _, .arr n e, _, _⟩, .one (.ptr k off), none, none => (match E.info e with
  | some ei => ok (s.put dst (.one (.tu k off n ei.size)))
  | none => none)
 | _, _, _, _ => none
def Cf (E : Env) (t : TypeId) : Bool := match E.info t with
 | some ⟨_, _, .arr _ _, _, _⟩ => true
 | _ => false

def oT (E : Env) (s : St) (dst : Option Nat) (ty : TypeId) (x : SV) (lo hi : Option SV) (mx : SV) : mM :=
 match x with
 | .one (.d (.sl t) xs) => bif !(cM E ty t) then none else (match aH 0 lo, (match hi with | some v => asInt? v | none => none), asInt? mx with
  | some l, some (_, h), some (_, m) => some (some (((0 ≤ l ∧ l ≤ h) ∧ h ≤ m) ∧ m ≤ (xs.length : Int)), s.put dst (.one (.d (.sl t) ((xs.take h.toNat).drop l.toNat))))
  | _, _, _ => none)
 | _ => none

def oD (E : Env) (s : St) (dst : Option Nat) (ty : TypeId) (x : SV) (lo hi : Option SV) (mx : SV) : mM :=
 match x with
 | .one (.row k) => (match s.hp k with
  | some (.row t xs) => bif !(cM E ty t) then none else (match aH 0 lo, (match hi with | some v => asInt? v | none => none), asInt? mx with
   | some l, some (_, h), some (_, m) => some (some (((0 ≤ l ∧ l ≤ h) ∧ h ≤ m) ∧ m ≤ (xs.length : Int)), s.put dst (.one .any))
   | _, _, _ => none)
  | _ => none)
 | _ => oT E s dst ty x lo hi mx

def ur (E : Env) (t : TypeId) : Option IntKind := match E.info t with
 | some ⟨_, _, .scalar (.int k), _, _⟩ => some k
 | _ => none
def iB (E : Env) (t : TypeId) : Bool := match E.info t with
 | some ⟨_, _, .slice e, _, _⟩ => (match ur E e with
  | some .u8 => true
  | _ => false)
 | _ => false
def lk (E : Env) (wr : Bool) (s : St) (dst : Option Nat) (t u : TypeId) (x : SV) : mM :=
 match asInt? x with
 | some (_, n) => (match ur E t, ur E u with
  | some _, some k => bif wr then ok (s.put dst (.one (.d (.int k) (k.wrap n)))) else some (some (IR k n), s.put dst (.one (.d (.int k) n)))
  | _, _ => none)
 | none => (match asStr? x with
  | some l => bif de E t then (bif de E u then ok (s.put dst (.one (.d .str l))) else
    bif iB E u then ok (s.put dst (.one (.d (.sl (.int .u8)) l))) else none) else none
  | none => bif iB E t && de E u then (match x with
   | .one (.aC (.slice none 0 0)) => ok (s.put dst (.one (.d .str [])))
   | _ => (match uV s x with
    | some ⟨t', xs⟩ => (match lX (.sl t') (.sl (.int .u8)) xs with
     | some l => ok (s.put dst (.one (.d .str l)))
     | none => none)
    | none => none)) else none)

def SO (s : St) (dst : Option Nat) (op : UnOp) (x : SV) : mM :=
 match op, x with
 | .not, .one (.lit b) => ok (s.put dst (.one (.lit (!b))))
 | .not, .one (.d .bool b) => ok (s.put dst (.one (.d .bool (!b))))
 | .neg, .one (.d (.int k) n) => some (some (IR k (-n)), s.put dst (.one (.d (.int k) (-n))))
 | .xor, .one (.d (.int .i64) n) => ok (s.put dst (.one (.d (.int .i64) (-1 - n))))
 | _, _ => none

def mK (s : St) (dst : Option Nat) (mx : Bool) (x y : SV) : mM :=
 match asInt? x, asInt? y with
 | some (k, a), some (k', b) => if k = k' then ok (s.put dst (.one (.d (.int k) (bif mx then max a b else min a b)))) else none
 | _, _ => none

def jR (s : St) (dst : Option Nat) (mx : Bool) (x y z : SV) : mM :=
 match asInt? x, asInt? y, asInt? z with
 | some (k, a), some (k', b), some (k'', c) => if k = k' ∧ k = k'' then ok (s.put dst (.one (.d (.int k) (bif mx then max (max a b) c else min (min a b) c)))) else none
 | _, _, _ => none

def sC (s : St) (k : Nat) (dst : Option Nat) (fn : Fn) (first caps : List Operand) : mM :=
 match fn, first with
 | .func f, [] => (match nN (caps.map (ev s)) with
  | some ps => bif s.us k then none else ok ((s.new k (.jP f ps)).put dst (.one (.jP k)))
  | none => none)
 | _, _ => none
def wD (E : Env) (s : St) (k : Nat) (dst : Option Nat) (callee : Callee) (args : List Operand) (ts : List TypeId) : mM :=
 match callee with
 | .builtin b => (match b, args, ts with
  | .len, [x], [t] => (match mapTy? E t with
   | some _ => oN E s dst t (ev s x)
   | none => Fm E s dst t (ev s x))
  | .delete, [x, y], [t, _] => oF E s dst t (ev s x) (ev s y)
  | .append, [x, y], [t, t'] => bif Nat.beq t t' then kQ E s k dst t (ev s x) (ev s y) else none
  | .clear, [x], [t] => r9 E s dst t (ev s x)
  | .max, [x, y], _ => mK s dst true (ev s x) (ev s y)
  | .min, [x, y], _ => mK s dst false (ev s x) (ev s y)
  | .max, [x, y, z], _ => jR s dst true (ev s x) (ev s y) (ev s z)
  | .min, [x, y, z], _ => jR s dst false (ev s x) (ev s y) (ev s z)
  | _, _, _ => none)
 | _ => none

def sT : SV → Option (Option Prop × Bool)
 | .one (.lit v) => some (none, v)
 | .one (.d .bool v) => some (none, v)
 | .lT b (.lit v) => some (some (b = true), v)
 | .lT b (.d .bool v) => some (some (b = true), v)
 | _ => none
def Th (b : Bool) : Option Prop → Option Prop → Option Prop
 | none, none => none
 | some p, none => some (b = true → p)
 | none, some q => some (b = false → q)
 | some p, some q => some ((b = true → p) ∧ (b = false → q))
def GD (b u v : Bool) (x y : SV) : Bool :=
 match y with
 | .one (.lit false) => b && u
 | _ => (match x with
  | .one (.lit true) => b || v
  | _ => bif b then u else v)
def D9 (s : St) (dst : Option Nat) (c x y : SV) : mM :=
 match c with
 | .one (.lit b) => ok (s.put dst (bif b then x else y))
 | .one (.d .bool b) => (match sT x, sT y with
  | some (p, u), some (q, v) => some (Th b p q, s.put dst (.one (.d .bool (GD b u v x y))))
  | _, _ => none)
 | _ => none
def FG (wr : Nat → Bool) (n : Nat) : Option Nat → Bool
 | some d => wr (n + d)
 | none => false
def Mr (E : Env) (wr : Nat → Bool) (s : St) (k : Nat) (o : Oper) : mM :=
 match o.op with
 | .move x => ok (s.put o.dst (ev s x))
 | .assign x => ok (s.put o.dst (ev s x))
 | .pick c x y => D9 s o.dst (ev s c) (ev s x) (ev s y)
 | .alloc e => (match E.info e with
  | some ti => bif s.us k then none else ok ((s.new k (.box (hY ti.zero))).put o.dst (.one (.ptr k 0)))
  | none => none)
 | .box _ x => (match (ev s x).parts with
  | some ps => bif s.us k then none else ok ((s.new k (.box ps)).put o.dst (.one (.ptr k 0)))
  | none => none)
 | .build t ps => sG E s o.dst t (ps.toList.map fun p => (p.1, ev s p.2))
 | .buildSlice t n ps => bif FG wr 3000000 o.dst then fQ E s k o.dst t n (ps.toList.map fun p => (p.1, ev s p.2)) else cY E s k o.dst t n (ps.toList.map fun p => (p.1, ev s p.2))
 | .load t x => xR E s o.dst t (ev s x)
 | .store t x y => (match rD E s t (ev s x) (ev s y) with
  | some (p, s') => some (p, s'.put o.dst (.one .any))
  | none => none)
 | .nilCheck x => (match ev s x with
  | .one (.ptr a b) => ok (s.put o.dst (.one (.ptr a b)))
  | .one (.pV a b c d e f) => ok (s.put o.dst (.one (.pV a b c d e f)))
  | .one (.rel a b c d) => ok (s.put o.dst (.one (.rel a b c d)))
  | .one (.wG a b c d e f g h) => ok (s.put o.dst (.one (.wG a b c d e f g h)))
  | .one (.zz t y) => ok (s.put o.dst (.one (.zz t y)))
  | _ => none)
 | .binOp op t x y _ => (match Co E op t (ev s x) y with
  | some b => ok (s.put o.dst (.one (.d .bool b)))
  | none => FX E (match o.dst with | some d => wr d | none => false) s o.dst op t (ev s x) (ev s y))
 | .unOp op _ x => SO s o.dst op (ev s x)
 | .convert t u x => lk E (match o.dst with | some d => wr d | none => false) s o.dst t u (ev s x)
 | .makeFunc fn first caps => sC s k o.dst fn first.toList caps.toList
 | .makeSlice t l c => xI E s k o.dst t (ev s l) (ev s c)
 | .makeMap t r => (match r with
  | none => lK E s k o.dst t
  | some _ => none)
 | .insert t x y z => (match mC E s t (ev s x) (ev s y) (ev s z) with
  | some (p, s') => some (p, s'.put o.dst (.one .any))
  | none => none)
 | .mapUpdate t x y z => (match mC E s t (ev s x) (ev s y) (ev s z) with
  | some (p, s') => some (p, s'.put o.dst (.one .any))
  | none => none)
 | .lookup t x y two => oX E s o.dst t (ev s x) (ev s y) two
 | .slice t x lo hi mx => (match mx with
  | none => bif Cf E t then Fi E s o.dst t (ev s x) (lo.map (ev s)) (hi.map (ev s)) else
    bif FG wr 3000000 o.dst then uI E s k o.dst t (ev s x) (lo.map (ev s)) (hi.map (ev s)) else
    mo E s k o.dst t (ev s x) (lo.map (ev s)) (hi.map (ev s))
  | some m => oD E s o.dst t (ev s x) (lo.map (ev s)) (hi.map (ev s)) (ev s m))
 | .fieldAddr t x i => gK E s o.dst t (ev s x) i
 | .field t x i => si E s o.dst t (ev s x) i
 | .indexAddr t x i => gH E (FG wr 5000000 o.dst) s o.dst t (ev s x) (ev s i)
 | .index t x i => rV E s o.dst t (ev s x) (ev s i)
 | .extract x i => (match ev s x with
  | .gB es => (match es[i]? with
   | some (true, ps) => ok (s.put o.dst (.agg ps))
   | some (false, [p]) => bif p.agg then none else ok (s.put o.dst (.one p))
   | _ => none)
  | _ => none)
 | .call c => wD E s k o.dst c.callee c.args.toList c.argTypes.toList
 | _ => none
end Go.Sx
/-
 Sx, part D: how a state's meaning is kept when names are made, written and dropped.
-/
namespace Go.Sx
open Go.RowKit

theorem r8 {n k : Nat} (h : n ≠ k) : Nat.beq n k = false := by
 cases e : Nat.beq n k
 ·rfl
 ·exact absurd (Nat.eq_of_beq_eq_true e) h
theorem dw (hp : Nat → Option HE) (k : Nat) (he : Option HE) : fK hp k he k = he := by simp [fK]
theorem bI (hp : Nat → Option HE) {k n : Nat} (he : Option HE) (h : n ≠ k) : fK hp k he n = hp n := by
 simp [fK, r8 h]
theorem bA (us : Nat → Bool) (k : Nat) : uset us k k = true := by simp [uset]
theorem ib {us : Nat → Bool} {k n : Nat} (h : us n = true) : uset us k n = true := by
 simp only [uset]
 cases Nat.beq n k <;> simp [h]
structure fm (w w' : World) : Prop where
 below : Below w.heap.size w w'
theorem fm.refl (w : World) : fm w w := ⟨Below.refl _ _⟩
theorem fm.alloc (w : World) (o : Obj) : fm w (w.alloc o) := ⟨(Below.refl _ _).alloc (Nat.le_refl _) o⟩
theorem fm.drew (w : World) : fm w w.drew := ⟨(Below.refl _ _).drew⟩
theorem fm.trans {a b c : World} (h : fm a b) (k : fm b c) : fm a c := ⟨h.below.trans (k.below.mono h.below.size)⟩
theorem fm.old {w w' : World} (h : fm w w') {b : Nat} (hb : b < w.heap.size) : w'.heap[b]? = w.heap[b]? := h.below.block b hb

def bF (ρ : Nat → Value) (k : Nat) (v : Value) : Nat → Value := fun n => if n = k then v else ρ n
theorem aw (ρ : Nat → Value) (k : Nat) (v : Value) : bF ρ k v k = v := by simp [bF]
theorem aR (ρ : Nat → Value) {k n : Nat} (v : Value) (h : n ≠ k) : bF ρ k v n = ρ n := by simp [bF, h]

section
variable {w0 : cz} {w w' : World} {ρ : Nat → Value} {s : St} {a : Act}

theorem Ok.more (h : Ok w0 ρ s a w) (m : fm w w') : Ok w0 ρ s a w' := by
 have hle : (cx w0 ρ s w).le (cx w0 ρ s w') :=
  ⟨fun _ hk => hk, fun _ _ => rfl, fun b hb => ⟨⟨Nat.lt_of_lt_of_le hb.1 m.below.size, hb.2.1, hb.2.2⟩, m.old hb.1⟩⟩
 exact h.move rfl rfl hle (m.below.mono h.base) (fun k he hk => rv.mono hle (h.used k he hk) (fun b hb => m.old (h.fresh k he b hk hb).2) (h.heap k he hk))
  h.used (fun k he b hk hb => ⟨(h.fresh k he b hk hb).1, Nat.lt_of_lt_of_le (h.fresh k he b hk hb).2 m.below.size⟩) h.apart

theorem vQ {k : Nat} {he : HE} {v : Value} (hk : s.us k = false) (m : fm w w') (hb : ∀ b, bO v = some b → w.heap.size ≤ b) :
  (cx w0 ρ s w).le (cx w0 (bF ρ k v) (s.new k he) w') := by
 have hne : ∀ {n}, s.us n = true → n ≠ k := fun hn e => by rw [e, hk] at hn; cases hn
 refine ⟨fun n hn => ib hn, fun n hn => aR ρ v (hne hn), fun b hS => ⟨⟨Nat.lt_of_lt_of_le hS.1 m.below.size, fun n h' hn => ?_, hS.2.2⟩, m.old hS.1⟩⟩
 by_cases e : n = k
 ·subst e
  rw [aw]
  intro e2
  have := hb b e2
  have := hS.1
  change b < w.heap.size at this
  omega
 ·have hn' : s.hp n = some h' := by
   have : (s.new k he).hp n = s.hp n := bI _ _ e
   rw [← this]; exact hn
  rw [aR _ _ e]
  exact hS.2.1 n h' hn'

theorem Ok.new (h : Ok w0 ρ s a w) {k : Nat} {he : HE} {v : Value} (hk : s.us k = false) (m : fm w w')
  (hb : ∀ b, bO v = some b → w.heap.size ≤ b ∧ b < w'.heap.size) (hhe : rv (cx w0 (bF ρ k v) (s.new k he) w') k he) :
  Ok w0 (bF ρ k v) (s.new k he) a w' := by
 have hle := vQ (w0 := w0) (ρ := ρ) (he := he) (v := v) hk m (fun b e => (hb b e).1)
 have hold : ∀ {n h'}, n ≠ k → (s.new k he).hp n = some h' → s.hp n = some h' := fun e hn => by rw [← bI s.hp (some he) e]; exact hn
 refine h.move rfl rfl hle (m.below.mono h.base) ?_ ?_ ?_ ?_
 ·intro n h' hn
  by_cases e : n = k
  ·subst e
   have : h' = he := by have := hn; rw [show (s.new n he).hp n = some he from dw _ _ _] at this; injection this with this; exact this.symm
   subst this; exact hhe
  ·have hn' := hold e hn
   exact rv.mono hle (h.used n h' hn') (fun b hb' => m.old (h.fresh n h' b hn' hb').2) (h.heap n h' hn')
 ·intro n h' hn
  by_cases e : n = k
  ·subst e; exact bA _ _
  ·exact ib (h.used n h' (hold e hn))
 ·intro n h' b hn hb'
  by_cases e : n = k
  ·subst e
   rw [aw] at hb'
   exact ⟨Nat.le_trans h.base (hb b hb').1, (hb b hb').2⟩
  ·rw [aR _ _ e] at hb'
   have := h.fresh n h' b (hold e hn) hb'
   exact ⟨this.1, Nat.lt_of_lt_of_le this.2 m.below.size⟩
 ·intro n n' h1 h2 b hne hn hn' hb1 hb2
  by_cases e : n = k
  ·subst e
   have e' : n' ≠ n := fun x => hne x.symm
   rw [aw] at hb1
   rw [aR _ _ e'] at hb2
   have := (h.fresh n' h2 b (hold e' hn') hb2).2
   have := (hb b hb1).1
   omega
  ·rw [aR _ _ e] at hb1
   by_cases e' : n' = k
   ·subst e'
    rw [aw] at hb2
    have := (h.fresh n h1 b (hold e hn) hb1).2
    have := (hb b hb2).1
    omega
   ·rw [aR _ _ e'] at hb2
    exact h.apart n n' h1 h2 b hne (hold e hn) (hold e' hn') hb1 hb2

theorem zy {k : Nat} : (cx w0 ρ s w).le (cx w0 ρ (s.drop k) w) := by
 refine ⟨fun _ hn => hn, fun _ _ => rfl, fun b hS => ⟨⟨hS.1, fun n h' hn => ?_, hS.2.2⟩, rfl⟩⟩
 by_cases e : n = k
 ·subst e
  have : (s.drop n).hp n = none := dw _ _ _
  rw [this] at hn; cases hn
 ·exact hS.2.1 n h' (by rw [← bI s.hp none e]; exact hn)
theorem Ok.drop (h : Ok w0 ρ s a w) (k : Nat) : Ok w0 ρ (s.drop k) a w := by
 have hold : ∀ {n h'}, (s.drop k).hp n = some h' → s.hp n = some h' := fun {n h'} hn => by
  by_cases e : n = k
  ·subst e; rw [show (s.drop n).hp n = none from dw _ _ _] at hn; cases hn
  ·rw [← bI s.hp none e]; exact hn
 exact h.move rfl rfl zy (Below.refl _ _) (fun n h' hn => rv.mono zy (h.used n h' (hold hn)) (fun _ _ => rfl) (h.heap n h' (hold hn)))
  (fun n h' hn => h.used n h' (hold hn)) (fun n h' b hn hb => h.fresh n h' b (hold hn) hb)
  (fun n n' h1 h2 b hne hn hn' => h.apart n n' h1 h2 b hne (hold hn) (hold hn'))

theorem r5 {k : Nat} {he : HE} (hk : ∃ h', s.hp k = some h') (hsz : w.heap.size ≤ w'.heap.size)
  (hold : ∀ b, bO (ρ k) ≠ some b → w'.heap[b]? = w.heap[b]?) : (cx w0 ρ s w).le (cx w0 ρ (s.fY k he) w') := by
 obtain ⟨hh, hk⟩ := hk
 refine ⟨fun _ hn => hn, fun _ _ => rfl, fun b hS => ⟨⟨Nat.lt_of_lt_of_le hS.1 hsz, fun n h' hn => ?_, hS.2.2⟩, hold b (hS.2.1 k hh hk)⟩⟩
 by_cases e : n = k
 ·subst e; exact hS.2.1 n hh hk
 ·exact hS.2.1 n h' (by rw [← bI s.hp (some he) e]; exact hn)
theorem Ok.fY (h : Ok w0 ρ s a w) {k : Nat} {he h0 : HE} (hk : s.hp k = some h0) (hb : Below w0.w.heap.size w w')
  (hold : ∀ b, bO (ρ k) ≠ some b → w'.heap[b]? = w.heap[b]?) (hhe : rv (cx w0 ρ (s.fY k he) w') k he) : Ok w0 ρ (s.fY k he) a w' := by
 have hle := r5 (w0 := w0) (ρ := ρ) (he := he) ⟨h0, hk⟩ hb.size hold
 have hback : ∀ {n h'}, n ≠ k → (s.fY k he).hp n = some h' → s.hp n = some h' := fun e hn => by rw [← bI s.hp (some he) e]; exact hn
 have hsome : ∀ {n h'}, (s.fY k he).hp n = some h' → ∃ h'', s.hp n = some h'' := fun {n h'} hn => by
  by_cases e : n = k
  ·subst e; exact ⟨h0, hk⟩
  ·exact ⟨h', hback e hn⟩
 refine h.move rfl rfl hle hb ?_ ?_ ?_ ?_
 ·intro n h' hn
  by_cases e : n = k
  ·subst e
   have : h' = he := by have := hn; rw [show (s.fY n he).hp n = some he from dw _ _ _] at this; injection this with this; exact this.symm
   subst this; exact hhe
  ·have hn' := hback e hn
   exact rv.mono hle (h.used n h' hn') (fun b hb' => hold b (fun e2 => h.apart k n h0 h' b (fun x => e x.symm) hk hn' e2 hb')) (h.heap n h' hn')
 ·intro n h' hn
  obtain ⟨h'', hn'⟩ := hsome hn
  exact h.used n h'' hn'
 ·intro n h' b hn hb'
  obtain ⟨h'', hn'⟩ := hsome hn
  have := h.fresh n h'' b hn' hb'
  exact ⟨this.1, Nat.lt_of_lt_of_le this.2 hb.size⟩
 ·intro n n' h1 h2 b hne hn hn'
  obtain ⟨h1', hn1⟩ := hsome hn
  obtain ⟨h2', hn2⟩ := hsome hn'
  exact h.apart n n' h1' h2' b hne hn1 hn2

theorem Ok.renew (h : Ok w0 ρ s a w) {k k' b : Nat} {he h0 : HE} {v : Value} (hk : s.hp k = some h0) (hbk : bO (ρ k) = some b) (hus : s.us k' = false) (hv : bO v = some b)
  (hb : Below w0.w.heap.size w w') (hold : ∀ b', b' ≠ b → b' < w.heap.size → w'.heap[b']? = w.heap[b']?)
  (hhe : ∀ c' : Cx, (cx w0 ρ s w).le c' → c'.w = w' → c'.ρ k' = v → rv c' k' he) : Ok w0 (bF ρ k' v) ((s.drop k).new k' he) a w' := by
 have hne : ∀ {n}, s.us n = true → n ≠ k' := fun hn e => by rw [e, hus] at hn; cases hn
 have hback : ∀ {n h'}, n ≠ k' → ((s.drop k).new k' he).hp n = some h' → n ≠ k ∧ s.hp n = some h' := fun {n h'} e hn => by
  have h1 : ((s.drop k).new k' he).hp n = (s.drop k).hp n := bI _ _ e
  rw [h1] at hn
  by_cases e2 : n = k
  ·subst e2; rw [show (s.drop n).hp n = none from dw _ _ _] at hn; cases hn
  ·exact ⟨e2, by rw [← bI s.hp none e2]; exact hn⟩
 have hle : (cx w0 ρ s w).le (cx w0 (bF ρ k' v) ((s.drop k).new k' he) w') := by
  refine ⟨fun n hn => ib hn, fun n hn => aR ρ v (hne hn), fun b1 hS => ?_⟩
  have hb1 : b1 ≠ b := fun e => hS.2.1 k h0 hk (by rw [e]; exact hbk)
  refine ⟨⟨Nat.lt_of_lt_of_le hS.1 hb.size, fun n h' hn => ?_, hS.2.2⟩, hold b1 hb1 hS.1⟩
  by_cases e : n = k'
  ·subst e
   rw [aw, hv]
   intro e2; injection e2 with e2; exact hb1 e2.symm
  ·obtain ⟨_, hn'⟩ := hback e hn
   rw [aR _ _ e]
   exact hS.2.1 n h' hn'
 refine h.move rfl rfl hle hb ?_ ?_ ?_ ?_
 ·intro n h' hn
  by_cases e : n = k'
  ·subst e
   have : h' = he := by have := hn; rw [show ((s.drop k).new n he).hp n = some he from dw _ _ _] at this; injection this with this; exact this.symm
   subst this
   exact hhe _ hle rfl (aw _ _ _)
  ·obtain ⟨e2, hn'⟩ := hback e hn
   exact rv.mono hle (h.used n h' hn') (fun b1 hb1 => hold b1 (fun e3 => h.apart k n h0 h' b (fun x => e2 x.symm) hk hn' hbk (by rw [← e3]; exact hb1)) (h.fresh n h' b1 hn' hb1).2) (h.heap n h' hn')
 ·intro n h' hn
  by_cases e : n = k'
  ·subst e; exact bA _ _
  ·exact ib (h.used n h' (hback e hn).2)
 ·intro n h' b1 hn hb1
  by_cases e : n = k'
  ·subst e
   rw [aw, hv] at hb1
   injection hb1 with hb1
   subst hb1
   have := h.fresh k h0 b hk hbk
   exact ⟨this.1, Nat.lt_of_lt_of_le this.2 hb.size⟩
  ·rw [aR _ _ e] at hb1
   have := h.fresh n h' b1 (hback e hn).2 hb1
   exact ⟨this.1, Nat.lt_of_lt_of_le this.2 hb.size⟩
 ·intro n n' h1 h2 b1 hnn hn hn' hb1 hb2
  by_cases e : n = k'
  ·subst e
   have e' : n' ≠ n := fun x => hnn x.symm
   rw [aw, hv] at hb1
   rw [aR _ _ e'] at hb2
   injection hb1 with hb1
   subst hb1
   obtain ⟨e2, hn2⟩ := hback e' hn'
   exact h.apart k n' h0 h2 b (fun x => e2 x.symm) hk hn2 hbk hb2
  ·rw [aR _ _ e] at hb1
   obtain ⟨e2, hn1⟩ := hback e hn
   by_cases e' : n' = k'
   ·subst e'
    rw [aw, hv] at hb2
    injection hb2 with hb2
    subst hb2
    exact h.apart k n h0 h1 b (fun x => e2 x.symm) hk hn1 hbk hb1
   ·rw [aR _ _ e'] at hb2
    exact h.apart n n' h1 h2 b1 hnn hn1 (hback e' hn').2 hb1 hb2
theorem Sn {k : Nat} {v : Value} (hk : s.us k = false) (hu : ∀ n he, s.hp n = some he → s.us n = true) : (cx w0 ρ s w).le (cx w0 (bF ρ k v) { s with us := uset s.us k } w) := by
 have hne : ∀ {n}, s.us n = true → n ≠ k := fun hn e => by rw [e, hk] at hn; cases hn
 refine ⟨fun n hn => ib hn, fun n hn => aR ρ v (hne hn), fun b hS => ⟨⟨hS.1, fun n h' hn => ?_, hS.2.2⟩, rfl⟩⟩
 rw [aR _ _ (hne (hu n h' hn))]
 exact hS.2.1 n h' hn
theorem Ok.use (h : Ok w0 ρ s a w) {k : Nat} {v : Value} (hk : s.us k = false) : Ok w0 (bF ρ k v) { s with us := uset s.us k } a w := by
 have hne : ∀ {n h'}, s.hp n = some h' → n ≠ k := fun {n h'} hn e => by have := h.used n h' hn; rw [e, hk] at this; cases this
 have hle := Sn (w0 := w0) (ρ := ρ) (w := w) (v := v) hk h.used
 refine h.move rfl rfl hle (Below.refl _ _) (fun n h' hn => rv.mono hle (h.used n h' hn) (fun _ _ => rfl) (h.heap n h' hn)) (fun n h' hn => ib (h.used n h' hn)) (fun n h' b hn hb => ?_) (fun n n' h1 h2 b hnn hn hn' hb => ?_)
 ·rw [aR _ _ (hne hn)] at hb; exact h.fresh n h' b hn hb
 ·rw [aR _ _ (hne hn)] at hb; rw [aR _ _ (hne hn')]; exact h.apart n n' h1 h2 b hnn hn hn' hb
theorem Ow {k k' : Nat} {he h0 : HE} (hk : s.hp k = some h0) (hb : bO (ρ k') = none ∨ bO (ρ k') = bO (ρ k)) : (cx w0 ρ s w).le (cx w0 ρ ((s.drop k).fY k' he) w) := by
 refine ⟨fun n hn => hn, fun n hn => rfl, fun b hS => ⟨⟨hS.1, fun n h' hn => ?_, hS.2.2⟩, rfl⟩⟩
 by_cases e : n = k'
 ·subst e
  rcases hb with hb | hb
  ·rw [hb]; simp
  ·rw [hb]; exact hS.2.1 k h0 hk
 ·have h1 : ((s.drop k).fY k' he).hp n = (s.drop k).hp n := bI _ _ e
  rw [h1] at hn
  by_cases e2 : n = k
  ·subst e2; rw [show (s.drop n).hp n = none from dw _ _ _] at hn; cases hn
  ·exact hS.2.1 n h' (by rw [← bI s.hp none e2]; exact hn)
theorem Ok.root (h : Ok w0 ρ s a w) {k k' : Nat} {he h0 : HE} (hk : s.hp k = some h0) (hk' : s.hp k' = none) (hu : s.us k' = true) (hb : bO (ρ k') = none ∨ bO (ρ k') = bO (ρ k))
  (hhe : ∀ c' : Cx, (cx w0 ρ s w).le c' → c'.w = w → c'.ρ = ρ → rv c' k' he) : Ok w0 ρ ((s.drop k).fY k' he) a w := by
 have hle := Ow (w0 := w0) (w := w) (he := he) hk hb
 have hback : ∀ {n h'}, n ≠ k' → ((s.drop k).fY k' he).hp n = some h' → n ≠ k ∧ s.hp n = some h' := fun {n h'} e hn => by
  have h1 : ((s.drop k).fY k' he).hp n = (s.drop k).hp n := bI _ _ e
  rw [h1] at hn
  by_cases e2 : n = k
  ·subst e2; rw [show (s.drop n).hp n = none from dw _ _ _] at hn; cases hn
  ·exact ⟨e2, by rw [← bI s.hp none e2]; exact hn⟩
 have hsome : ∀ {b}, bO (ρ k') = some b → bO (ρ k) = some b := fun {b} e => by
  rcases hb with hb | hb
  ·rw [hb] at e; cases e
  ·rw [← hb]; exact e
 refine h.move rfl rfl hle (Below.refl _ _) ?_ ?_ ?_ ?_
 ·intro n h' hn
  by_cases e : n = k'
  ·subst e
   have : h' = he := by have := hn; rw [show ((s.drop k).fY n he).hp n = some he from dw _ _ _] at this; injection this with this; exact this.symm
   subst this
   exact hhe _ hle rfl rfl
  ·obtain ⟨_, hn'⟩ := hback e hn
   exact rv.mono hle (h.used n h' hn') (fun _ _ => rfl) (h.heap n h' hn')
 ·intro n h' hn
  by_cases e : n = k'
  ·subst e; exact hu
  ·exact h.used n h' (hback e hn).2
 ·intro n h' b hn hb1
  by_cases e : n = k'
  ·subst e; exact h.fresh k h0 b hk (hsome hb1)
  ·exact h.fresh n h' b (hback e hn).2 hb1
 ·intro n n' h1 h2 b hnn hn hn' hb1 hb2
  by_cases e : n = k'
  ·subst e
   obtain ⟨e2, hn2⟩ := hback (fun x => hnn x.symm) hn'
   exact h.apart k n' h0 h2 b (fun x => e2 x.symm) hk hn2 (hsome hb1) hb2
  ·obtain ⟨e2, hn1⟩ := hback e hn
   by_cases e' : n' = k'
   ·subst e'
    exact h.apart k n h0 h1 b (fun x => e2 x.symm) hk hn1 (hsome hb2) hb1
   ·exact h.apart n n' h1 h2 b hnn hn1 (hback e' hn').2 hb1 hb2
end
end Go.Sx
/-
 Sx, part E: each operation does what the executor says (loads, stores, addresses, arithmetic).
-/
namespace Go.Sx
open Go.RowKit

def cellsD : (t : Ty) → t.D → List Value
 | .int k, x => [.int k x]
 | .bool, x => [.bool x]
 | .str, x => [.string (mkStr x)]
 | .sl _, _ => [.slice none 0 0]
 | .arr _ t, xs => (xs.map (cellsD t)).flatten
 | .pair a b, x => cellsD a x.1 ++ cellsD b x.2
 | .err, _ => [.nilIface]
def JZ : PV → List Value
 | .d t x => cellsD t x
 | .lit b => [.bool b]
 | .aC v => [v]
 | _ => []
def da : List PV → List Value
 | [] => []
 | p :: ps => JZ p ++ da ps
def ig : (t : Ty) → t.D → Bool
 | .int k, n => Sw k n
 | .bool, _ => true
 | .str, x => x.isEmpty
 | .sl _, xs => xs.isEmpty
 | .arr n t, xs => Nat.beq xs.length n && xs.all (ig t)
 | .pair a b, x => ig a x.1 && ig b x.2
 | .err, x => !(x : Bool)
def AZ : PV → Bool
 | .d t x => ig t x
 | .lit _ => true
 | .aC v => v.oneCell'
 | _ => false

theorem pr {α : Type} (n : Nat) : ∀ (ls : List (List α)) (i : Nat) (l : List α), (∀ x ∈ ls, x.length = n) → ls[i]? = some l → (ls.flatten.drop (i * n)).take n = l
 | [], i, l, _, h => by simp at h
 | x :: ls, 0, l, hn, h => by
  have hx : x.length = n := hn x (by simp)
  simp at h; subst h
  simp [List.flatten_cons, ← hx]
 | x :: ls, i + 1, l, hn, h => by
  have hx : x.length = n := hn x (by simp)
  have ih := pr n ls i l (fun y hy => hn y (by simp [hy])) (by simpa using h)
  rw [List.flatten_cons, Nat.add_mul, Nat.one_mul, Nat.add_comm, ← List.drop_drop]
  rw [show (x ++ ls.flatten).drop n = ls.flatten by rw [← hx]; simp]
  exact ih
theorem gY : ∀ {t : Ty} {x : t.D}, ig t x = true → (cellsD t x).length = t.size
 | .int _, _, _ => rfl
 | .bool, _, _ => rfl
 | .str, _, _ => rfl
 | .sl _, _, _ => rfl
 | .pair a b, x, h => by
  simp only [ig, Bool.and_eq_true] at h
  simp [cellsD, gY h.1, gY h.2, Ty.size]
 | .arr n t, xs, h => by
  simp only [ig, Bool.and_eq_true, List.all_eq_true] at h
  have hn : xs.length = n := Nat.eq_of_beq_eq_true h.1
  have : ∀ (l : List t.D), (∀ x ∈ l, ig t x = true) → ((l.map (cellsD t)).flatten).length = l.length * t.size := by
   intro l hl
   induction l with
   | nil => simp
   | cons y l ih =>
    simp only [List.map_cons, List.flatten_cons, List.length_append, List.length_cons]
    rw [gY (hl y (by simp)), ih (fun x hx => hl x (by simp [hx])), Nat.add_mul, Nat.one_mul, Nat.add_comm]
  simp only [cellsD, Ty.size]
  rw [this xs h.2, hn]
 | .err, _, _ => rfl
theorem jx {S : Nat → Prop} {w : World} : ∀ {t : Ty} {x : t.D}, ig t x = true → Rd S w t (cellsD t x) x
 | .int _, _, h => ⟨rfl, JP h⟩
 | .bool, _, _ => rfl
 | .str, x, h => by
  have hx : x = [] := by simpa [ig] using h
  subst hx
  exact ⟨rfl, by simp, fun b hb => by cases hb⟩
 | .sl _, xs, h => by
  have hx : xs = [] := by simpa [ig] using h
  subst hx
  exact ⟨none, 0, rfl, Nat.le_refl _, by simp [maxLen], fun h => absurd h (by simp)⟩
 | .pair a b, x, h => by
  simp only [ig, Bool.and_eq_true] at h
  exact ⟨_, _, rfl, jx h.1, jx h.2⟩
 | .arr n t, xs, h => by
  have hlen := gY (t := .arr n t) (x := xs) h
  simp only [ig, Bool.and_eq_true, List.all_eq_true] at h
  have hn : xs.length = n := Nat.eq_of_beq_eq_true h.1
  refine ⟨hn, by rw [hlen]; rfl, fun i x hx => ?_⟩
  have hm : x ∈ xs := List.mem_of_getElem? hx
  have := pr t.size (xs.map (cellsD t)) i (cellsD t x)
   (fun l hl => by obtain ⟨y, hy, rfl⟩ := List.mem_map.1 hl; exact gY (h.2 y hy)) (by simp [hx])
  show Rd S w t (((xs.map (cellsD t)).flatten.drop (i * t.size)).take t.size) x
  rw [this]
  exact jx (h.2 x hm)
 | .err, x, h => .inl ⟨by simpa [ig] using h, rfl⟩
theorem GY {c : Cx} {p : PV} (h : AZ p = true) : iD c p (JZ p) := by
 cases p with
 | d t x => exact jx h
 | lit b => rfl
 | aC v => exact ⟨rfl, h⟩
 | _ => simp [AZ] at h
theorem hD {c : Cx} : ∀ {ps : List PV}, ps.all AZ = true → b9 c ps (da ps)
 | [], _ => rfl
 | p :: ps, h => by
  simp only [List.all_cons, Bool.and_eq_true] at h
  exact ⟨_, _, rfl, GY h.1, hD h.2⟩

structure aa (P : Program) (t : TypeId) (ti : TI) : Prop where
 info : ∃ i z, P.info? t = some i ∧ i.size = ti.size ∧ i.bytes = ti.bytes ∧ i.zero = some z ∧ z = (bif ti.kind.agg then .agg (da ti.zero).toArray else (da ti.zero).headD undef)
 flat : ti.zero.all AZ = true
 size : (da ti.zero).length = ti.size
 one : ti.kind.agg = true ∨ ti.size = 1
 kind : match ti.kind with
  | .scalar d => P.underlying t = some d ∧ (match d with | .struct _ => False | .array _ _ => False | _ => True)
  | .slice e => P.underlying t = some (.slice e)
  | .arr n e => P.underlying t = some (.array n e)
  | .struct fs => ∃ F : Array Field, P.underlying t = some (.struct F) ∧ F.toList.map (fun f => (f.offset, f.type)) = fs
 ty : match ti.ty with
  | none => True
  | some u => u.size = ti.size ∧ u.agg = ti.kind.agg ∧ ig u u.zero = true ∧ cellsD u u.zero = da ti.zero
structure kL (P : Program) (t : TypeId) (u : Ty) : Prop where
 is : Nn P u t
 flat : jW u = true
 agg : u.agg = true
 key : P.keyTypeAt 100 t = true
 guard : P.eqGuardType P.depth t = false
structure aY (P : Program) (E : Env) : Prop where
 ty : ∀ t ti, E.info t = some ti → aa P t ti
 eq : ∀ t u, E.eq? t = some u → kL P t u
instance {P : Program} {E : Env} : CoeFun (aY P E) (fun _ => ∀ t ti, E.info t = some ti → aa P t ti) := ⟨aY.ty⟩

theorem aa.aG {P : Program} {t : TypeId} {ti : TI}
  (h : (P.info? t).map (fun i => (i.zero, i.size, i.bytes)) = some (some (bif ti.kind.agg then .agg (da ti.zero).toArray else (da ti.zero).headD undef), ti.size, ti.bytes))
  (flat : ti.zero.all AZ = true) (size : (da ti.zero).length = ti.size) (one : ti.kind.agg = true ∨ ti.size = 1)
  (kind : match ti.kind with
   | .scalar d => P.underlying t = some d ∧ (match d with | .struct _ => False | .array _ _ => False | _ => True)
   | .slice e => P.underlying t = some (.slice e)
   | .arr n e => P.underlying t = some (.array n e)
   | .struct fs => ∃ F : Array Field, P.underlying t = some (.struct F) ∧ F.toList.map (fun f => (f.offset, f.type)) = fs)
  (ty : match ti.ty with
   | none => True
   | some u => u.size = ti.size ∧ u.agg = ti.kind.agg ∧ ig u u.zero = true ∧ cellsD u u.zero = da ti.zero) : aa P t ti := by
 obtain ⟨i, hi, hz⟩ := Option.map_eq_some_iff.1 h
 simp only [Prod.mk.injEq] at hz
 exact ⟨⟨i, _, hi, hz.2.1, hz.2.2, hz.1, rfl⟩, flat, size, one, kind, ty⟩
def J0 (P : Program) : List (Nat × TI) → Prop
 | [] => True
 | (t, i) :: r => aa P t i ∧ J0 P r
def Hl (P : Program) : List (Nat × Ty) → Prop
 | [] => True
 | (t, i) :: r => kL P t i ∧ Hl P r
theorem qz {P : Program} : ∀ {L : List (Nat × TI)}, J0 P L → ∀ t ti, L8 L t = some ti → aa P t ti
 | [], _, t, ti, h => by cases h
 | (k, i) :: r, h, t, ti, e => by
  unfold L8 at e
  cases hb : Nat.beq k t with
  | true =>
   rw [hb] at e
   simp only [cond_true, Option.some.injEq] at e
   subst e
   have := Nat.eq_of_beq_eq_true hb
   subst this
   exact h.1
  | false =>
   rw [hb] at e
   exact qz h.2 t ti e
theorem qf {P : Program} : ∀ {L : List (Nat × Ty)}, Hl P L → ∀ t u, N8 L t = some u → kL P t u
 | [], _, t, ti, h => by cases h
 | (k, i) :: r, h, t, ti, e => by
  unfold N8 at e
  cases hb : Nat.beq k t with
  | true =>
   rw [hb] at e
   simp only [cond_true, Option.some.injEq] at e
   subst e
   have := Nat.eq_of_beq_eq_true hb
   subst this
   exact h.1
  | false =>
   rw [hb] at e
   exact qf h.2 t ti e
theorem yo {P : Program} {E : Env} (h : J0 P E.VB) (h' : Hl P E.eqs) : aY P E := ⟨qz h, qf h'⟩

section
variable {P : Program} {t : TypeId} {ti : TI} (w : World)
theorem aa.DY (h : aa P t ti) : (isAgg t).run P w = .ok ti.kind.agg w := by
 have hk := h.kind
 cases e : ti.kind with
 | scalar d =>
  rw [e] at hk
  obtain ⟨hd, hn⟩ := hk
  unfold isAgg
  simp only [Sem.run_bind, run_underlying hd, Result.andThen_ok]
  cases d <;> first | rfl | exact hn.elim
 | slice e' => rw [e] at hk; unfold isAgg; simp only [Sem.run_bind, run_underlying hk, Result.andThen_ok]; rfl
 | arr n e' => rw [e] at hk; unfold isAgg; simp only [Sem.run_bind, run_underlying hk, Result.andThen_ok]; rfl
 | struct fs =>
  rw [e] at hk
  obtain ⟨F, hF, _⟩ := hk
  unfold isAgg; simp only [Sem.run_bind, run_underlying hF, Result.andThen_ok]; rfl
theorem aa.HZ (h : aa P t ti) : ∃ i, (typeInfo t).run P w = .ok i w ∧ i.size = ti.size ∧ i.bytes = ti.bytes := by
 obtain ⟨i, z, h1, h2, h3, _⟩ := h.info
 exact ⟨i, by simp [typeInfo, h1], h2, h3⟩
theorem aa.dA (h : aa P t ti) : (sizeOf t).run P w = .ok ti.size w := by
 obtain ⟨i, h1, h2, _⟩ := h.HZ w
 unfold sizeOf
 simp only [Sem.run_bind, h1, Result.andThen_ok, Sem.run_pure, h2]
end

def bD (P : Program) (o : Oper) (a : Act) (w : World) (R : Act → World → Prop) : Prop :=
 (∃ v w', (execOp a.eval o).run P w = .ok (.value v) w' ∧ R (a.put o.dst v) w') ∨ (∃ w', (execOp a.eval o).run P w = .ok .skip w' ∧ R (a.put o.dst undef) w')
theorem bD.wp {P : Program} {o : Oper} {a : Act} {w : World} {R : Act → World → Prop} {Q : Exit → Act → World → Prop} (h : bD P o a w R) : o.wp P a w R Q := by
 unfold Oper.wp
 rcases h with ⟨v, w', h, hr⟩ | ⟨w', h, hr⟩ <;> rw [h] <;> exact hr
theorem bD.value {P : Program} {o : Oper} {a : Act} {w : World} {R : Act → World → Prop} {v : Value} {w' : World} {m : Sem Value}
  (he : execOp a.eval o = (do pure (.value (← m)))) (hm : m.run P w = .ok v w') (hr : R (a.put o.dst v) w') : bD P o a w R :=
 .inl ⟨v, w', by rw [he]; simp only [Sem.run_bind, hm, Result.andThen_ok, Sem.run_pure], hr⟩

section
variable {P : Program} {E : Env} {w0 : cz} {w : World} {ρ : Nat → Value} {s s' : St} {a : Act}

theorem Bp {S : Nat → Prop} {w : World} (z : ByteArray) (h : z.size ≤ 9223372036854775807) : Rd S w .str [.string z] (ofStr z) := ⟨by rw [Br], xd z h⟩
theorem E5 {c : Cx} (v : Value) : aK c (rf v) v := by
 cases v
 case int k n =>
  show aK c (bif Sw k n then .one (.d (.int k) n) else .one .any) (.int k n)
  cases h : Sw k n with
  | true => exact b9.single (show iD c (.d (.int k) n) _ from ⟨rfl, JP h⟩)
  | false => exact trivial
 case string z =>
  show aK c (bif Nat.ble z.size 9223372036854775807 then .one (.d .str (ofStr z)) else .one .any) (.string z)
  cases h : Nat.ble z.size 9223372036854775807 with
  | true => exact b9.single (show iD c (.d .str (ofStr z)) _ from Bp (S := c.S) (w := c.w) z (Nat.le_of_ble_eq_true h))
  | false => exact trivial
 all_goals first
  | exact trivial
  | exact b9.single (show iD c (.aC _) _ from ⟨rfl, rfl⟩)
  | exact b9.single (show iD c (.lit _) _ from rfl)
theorem Ok.ev (h : Ok w0 ρ s a w) (x : Operand) : aK (cx w0 ρ s w) (ev s x) (a.eval x) := by
 cases x with
 | tmp t => exact h.frame t
 | const v => exact E5 v
 | global g => exact trivial
 | func f => exact b9.single (show iD (cx w0 ρ s w) (.aC _) _ from ⟨rfl, rfl⟩)

theorem aK.bb {c : Cx} {p : PV} {v : Value} (hp : p.agg = false) (hn : p ≠ .any) (h : aK c (.one p) v) : iD c p [v] := by
 have h' : dW c p.agg [p] v := by cases p <;> first | exact absurd rfl hn | exact h
 rw [hp] at h'
 obtain ⟨x, y, e, h1, h2⟩ := h'
 have hy : y = [] := h2
 subst hy
 rw [List.append_nil] at e
 rw [e]; exact h1
theorem aK.ki {c : Cx} {p : PV} {v : Value} (hp : p.agg = false) (h : iD c p [v]) : aK c (.one p) v := by
 cases p with
 | any => trivial
 | d t x =>
  show dW c t.agg [.d t x] v
  rw [show t.agg = false from hp]
  exact b9.single h
 | lit b => exact b9.single h
 | aC u => exact b9.single h
 | row k => exact b9.single h
 | ptr k o => exact b9.single h
 | pV k o n sz i j => exact b9.single h
 | rel k sz i j => exact b9.single h
 | wG k sz i j n' sz' i' j' => exact b9.single h
 | zz t x => exact b9.single h
 | jP k => exact b9.single h
 | sub k k' sz a b => exact b9.single h
 | tu k off n sz => exact b9.single h

theorem a8 {c : Cx} {x : SV} {v : Value} {k : IntKind} {n : Int} (h : aK c x v) (e : asInt? x = some (k, n)) : v = .int k n := by
 unfold asInt? at e
 split at e
 ·rename_i k' n'
  simp only [Option.some.injEq, Prod.mk.injEq] at e
  obtain ⟨rfl, rfl⟩ := e
  have h2 : [v] = [.int k' n'] := (aK.bb rfl (by simp) h).1
  simpa using h2
 ·cases e
theorem cv {c : Cx} {x : SV} {v : Value} {k : IntKind} {n : Int} (h : aK c x v) (e : asInt? x = some (k, n)) : IR k n := by
 unfold asInt? at e
 split at e
 ·rename_i k' n'
  simp only [Option.some.injEq, Prod.mk.injEq] at e
  obtain ⟨rfl, rfl⟩ := e
  exact (aK.bb rfl (by simp) h).2
 ·cases e
theorem pb {c : Cx} {x : SV} {v : Value} {l : List Int} (h : aK c x v) (e : asStr? x = some l) : v = .string (mkStr l) ∧ bN l := by
 unfold asStr? at e
 split at e
 ·simp only [Option.some.injEq] at e
  subst e
  have h2 := aK.bb rfl (by simp) h
  refine ⟨?_, h2.2⟩
  have h3 : [v] = [.string (mkStr _)] := h2.1
  simpa using h3
 ·cases e
theorem jU {P : Program} {E : Env} {t : TypeId} (hE : aY P E) (h : de E t = true) : P.underlying t = some .string := by
 unfold de at h
 split at h
 ·rename_i e; exact (hE _ _ e).kind.1
 ·cases h
theorem iu {c : Cx} {x : SV} {v : Value} {b : Bool} (h : aK c x v) (e : asBool? x = some b) : v = .bool b := by
 unfold asBool? at e
 split at e
 ·simp only [Option.some.injEq] at e
  subst e
  have h2 : [v] = [.bool _] := aK.bb rfl (by simp) h
  simpa using h2
 ·simp only [Option.some.injEq] at e
  subst e
  have h2 : [v] = [.bool _] := aK.bb rfl (by simp) h
  simpa using h2
 ·cases e

theorem yQ (k : IntKind) (n : Int) : IR k (k.wrap n) := by
 cases k <;> simp only [IR] <;> simp only [IntKind.wrap, IntKind.bits, IntKind.signed] <;> simp <;> omega
theorem o5 {k : IntKind} {n : Int} (h : IR k n) : k.wrap n = n := by
 cases k <;> simp only [IR] at h <;> simp only [IntKind.wrap, IntKind.bits, IntKind.signed] <;> simp <;> omega
end
end Go.Sx
/-
 Sx, part F: each operation does what the executor says: moves, numbers, truth values, addresses.
-/
namespace Go.Sx
open Go.RowKit

section
variable {P : Program} {E : Env} {w0 : cz} {w : World} {ρ : Nat → Value} {s s' : St} {a : Act} {o : Oper}

def Up (w0 : cz) (s : St) (R : Act → World → Prop) : Prop := ∀ ρ a w, Ok w0 ρ s a w → R a w

theorem ae {m : Sem Value} {v : Value} {sv : SV} {R : Act → World → Prop} (h : Ok w0 ρ s a w) (he : execOp a.eval o = (do pure (.value (← m))))
  (hm : m.run P w = .ok v w) (hv : aK (cx w0 ρ s w) sv v) (hR : Up w0 (s.put o.dst sv) R) : bD P o a w R :=
 bD.value he hm (hR ρ _ _ (h.put o.dst hv))

theorem fH {c : Cx} {k : IntKind} {n : Int} (h : IR k n) : aK c (.one (.d (.int k) n)) (.int k n) := aK.ki rfl (show Rd _ _ _ _ _ from ⟨rfl, h⟩)
theorem fC {c : Cx} (b : Bool) : aK c (.one (.d .bool b)) (.bool b) := aK.ki rfl (show Rd _ _ _ _ _ from rfl)
theorem nY {c : Cx} (b : Bool) : aK c (.one (.lit b)) (.bool b) := aK.ki rfl (show iD c (.lit b) _ from rfl)

theorem xQ {x : Operand} {R : Act → World → Prop} (h : Ok w0 ρ s a w) (ho : o.op = .move x ∨ o.op = .assign x) (hR : Up w0 (s.put o.dst (ev s x)) R) : bD P o a w R := by
 refine .inl ⟨a.eval x, w, ?_, hR ρ _ _ (h.put o.dst (h.ev x))⟩
 rcases ho with ho | ho <;> simp [execOp, ho]

theorem iQ (op : BinOp) (t : TypeId) (x y : Operand) (k j : IntKind) (m n : Int) :
  (eqGuard op t x y (.int k m) (.int j n)).run P w = .ok () w := by
 unfold eqGuard; cases op <;> rfl
theorem sq (op : BinOp) (t : TypeId) (x y : Operand) (m n : Bool) :
  (eqGuard op t x y (.bool m) (.bool n)).run P w = .ok () w := by
 unfold eqGuard; cases op <;> rfl

theorem eQ {op : BinOp} {t t' : TypeId} {x y : Operand} (ho : o.op = .binOp op t x y t') :
  execOp a.eval o = (do pure (.value (← (do eqGuard op t x y (a.eval x) (a.eval y); binOp op t (a.eval x) (a.eval y))))) := by
 simp [execOp, ho]

theorem LD {op : BinOp} {k : IntKind} {t : TypeId} {m n : Int} {b : Bool} (h : RP op m n = some b) :
  (binOp op t (.int k m) (.int k n)).run P w = .ok (.bool b) w := by
 cases op <;> simp only [RP, Option.some.injEq, reduceCtorEq] at h <;> subst h <;> simp [binOp, Op.intCmp]

theorem Hi {k : IntKind} {m n : Int} (hm : IR k m) (h0 : 0 ≤ m) (h1 : 0 < n) : IR k (m / n) := by
 have a1 : 0 ≤ m / n := Int.ediv_nonneg h0 (by omega)
 have a2 : m / n ≤ m := Int.ediv_le_self n h0
 cases k <;> simp only [IR] at hm ⊢ <;> omega
theorem Sd {k : IntKind} {m n : Int} (hn : IR k n) (h1 : 0 < n) : IR k (m % n) := by
 have a1 : 0 ≤ m % n := Int.emod_nonneg m (by omega)
 have a2 : m % n < n := Int.emod_lt_of_pos m h1
 cases k <;> simp only [IR] at hn ⊢ <;> omega
theorem Uu {k : IntKind} {n : Int} (h : (Lit.int k n).wf = true) : IR k n := by
 simp only [Lit.wf, Bool.and_eq_true, decide_eq_true_eq] at h
 cases k <;> simp only [IntKind.min, IntKind.max, IntKind.bits, IntKind.signed] at h <;> simp at h <;> simp only [IR] <;> omega
theorem tW (op : BinOp) (k : IntKind) (x y : Int) : IR k (bits op k x y) := Uu (wf_bits op k x y)
theorem Hc {wr : Bool} {op : BinOp} {k : IntKind} {m n r : Int} {p : Option Prop} (hm : IR k m) (hn : IR k n) (h : arith wr op k m n = some (p, r)) (hp : l6 p) : IR k r := by
 cases op <;> simp only [arith, Option.some.injEq, reduceCtorEq] at h
 case quo => simp only [Prod.mk.injEq] at h; obtain ⟨rfl, rfl⟩ := h; exact Hi hm hp.1 hp.2
 case rem => simp only [Prod.mk.injEq] at h; obtain ⟨rfl, rfl⟩ := h; exact Sd hn hp.2
 case and => simp only [Prod.mk.injEq] at h; obtain ⟨rfl, rfl⟩ := h; exact tW ..
 case or => simp only [Prod.mk.injEq] at h; obtain ⟨rfl, rfl⟩ := h; exact tW ..
 case xor => simp only [Prod.mk.injEq] at h; obtain ⟨rfl, rfl⟩ := h; exact tW ..
 case andNot => simp only [Prod.mk.injEq] at h; obtain ⟨rfl, rfl⟩ := h; exact tW ..
 all_goals
  cases wr <;> simp only [cond_true, cond_false, Prod.mk.injEq] at h <;> obtain ⟨rfl, rfl⟩ := h
  ·exact hp
  ·exact yQ ..
theorem FN {wr : Bool} {op : BinOp} {k : IntKind} {t : TypeId} {m n r : Int} {p : Option Prop} (hm : IR k m) (h : arith wr op k m n = some (p, r)) (hp : l6 p) :
  (binOp op t (.int k m) (.int k n)).run P w = .ok (.int k r) w := by
 cases op <;> simp only [arith, Option.some.injEq, reduceCtorEq] at h
 case add =>
  cases wr <;> simp only [cond_true, cond_false, Prod.mk.injEq] at h <;> obtain ⟨rfl, rfl⟩ := h
  ·have hp : IR k _ := hp
   simp [binOp, Op.intArith, o5 hp]
  ·simp [binOp, Op.intArith]
 case sub =>
  cases wr <;> simp only [cond_true, cond_false, Prod.mk.injEq] at h <;> obtain ⟨rfl, rfl⟩ := h
  ·have hp : IR k _ := hp
   simp [binOp, Op.intArith, o5 hp]
  ·simp [binOp, Op.intArith]
 case mul =>
  cases wr <;> simp only [cond_true, cond_false, Prod.mk.injEq] at h <;> obtain ⟨rfl, rfl⟩ := h
  ·have hp : IR k _ := hp
   simp [binOp, Op.intArith, o5 hp]
  ·simp [binOp, Op.intArith]
 case quo =>
  simp only [Prod.mk.injEq] at h
  obtain ⟨rfl, rfl⟩ := h
  obtain ⟨h0, h1⟩ := hp
  have hne : n ≠ 0 := by omega
  simp [binOp, Op.intDiv, hne, Int.tdiv_eq_ediv_of_nonneg h0, o5 (Hi hm h0 h1)]
 case rem =>
  simp only [Prod.mk.injEq] at h
  obtain ⟨rfl, rfl⟩ := h
  obtain ⟨h0, h1⟩ := hp
  have hne : n ≠ 0 := by omega
  simp [binOp, Op.intDiv, hne, Int.tmod_eq_emod_of_nonneg h0]
 case and => simp only [Prod.mk.injEq] at h; obtain ⟨rfl, rfl⟩ := h; simp [binOp, Op.intBits, bits]
 case or => simp only [Prod.mk.injEq] at h; obtain ⟨rfl, rfl⟩ := h; simp [binOp, Op.intBits, bits]
 case xor => simp only [Prod.mk.injEq] at h; obtain ⟨rfl, rfl⟩ := h; simp [binOp, Op.intBits, bits]
 case andNot => simp only [Prod.mk.injEq] at h; obtain ⟨rfl, rfl⟩ := h; simp [binOp, Op.intBits, bits]

theorem Dp {t : TypeId} (hE : aY P E) (h : rn E t = true) : P.underlying t = some .bool := by
 unfold rn at h
 split at h
 ·rename_i e
  exact (hE _ _ e).kind.1
 ·cases h

theorem y8 {t : TypeId} (hu : P.underlying t = some .bool) (d : Nat) (b c : Bool) : (Op.equalIn (d + 1) t (.bool b) (.bool c)).run P w = .ok (b == c) w := by
 simp [Op.equalIn, run_underlying hu]
theorem C6 {t : TypeId} (hu : P.underlying t = some .bool) (b c : Bool) : (Op.equal t (.bool b) (.bool c)).run P w = .ok (b == c) w := y8 hu 9999 b c
theorem BP {op : BinOp} {t : TypeId} {b c r : Bool} (hu : P.underlying t = some .bool) (h : CV op b c = some r) :
  (binOp op t (.bool b) (.bool c)).run P w = .ok (.bool r) w := by
 cases op <;> simp only [CV, Option.some.injEq, reduceCtorEq] at h <;> subst h <;> simp only [binOp] <;>
  simp only [Sem.run_bind, C6 hu, Result.andThen_ok, Sem.run_pure]
 rfl

end
end Go.Sx
/-
 Sx, part G: parts: taken apart, read as data, replaced.
-/
namespace Go.Sx
open Go.RowKit

theorem cC {c : Cx} : ∀ {t : Ty} {x : t.D} {l : List Value}, Rd c.S c.w t l x → b9 c (cn t x) l
 | .int _, _, _, h => b9.single h
 | .bool, _, _, h => b9.single h
 | .str, _, _, h => b9.single h
 | .sl _, _, _, h => b9.single h
 | .arr _ _, _, _, h => b9.single h
 | .pair _ _, _, _, h => by
  obtain ⟨l, m, e, h1, h2⟩ := h
  rw [e]
  exact (cC h1).append (cC h2)
 | .err, x, _, h => b9.single (p := .d .err x) h
theorem yJ {c : Cx} {p : PV} {l : List Value} (h : iD c p l) : b9 c p.parts l := by
 cases p <;> first | exact cC h | exact b9.single h
theorem ju {c : Cx} : ∀ {ps : List PV} {l : List Value}, b9 c ps l → b9 c (hY ps) l
 | [], _, h => h
 | p :: ps, _, ⟨a, b, e, h1, h2⟩ => by rw [e]; exact (yJ h1).append (ju h2)

theorem bH {c : Cx} {g : Bool} {ps : List PV} {v : Value} (h : dW c g ps v) : b9 c ps v.cells.toList := by
 cases g
 ·have h' : b9 c ps [v] := h
  have : v.oneCell' = true := h'.one v (by simp)
  cases v <;> first | exact h' | cases this
 ·obtain ⟨cs, e, h⟩ := h; rw [e]; exact h
theorem dZ {c : Cx} {sv : SV} {v : Value} {ps : List PV} (h : aK c sv v) (e : sv.parts = some ps) : b9 c ps v.cells.toList := by
 cases sv with
 | gB es => cases e
 | lT b p => cases e
 | agg qs =>
  injection e with e; subst e
  exact ju (bH (g := true) h)
 | one p =>
  cases p with
  | any => cases e
  | d t x => injection e with e; subst e; exact yJ (by obtain ⟨a, b, e1, h1, h2⟩ := bH (g := t.agg) (ps := [.d t x]) h; rw [e1, show b = [] from h2, List.append_nil]; exact h1)
  | lit b => injection e with e; subst e; exact bH (g := false) (ps := [.lit b]) h
  | aC b => injection e with e; subst e; exact bH (g := false) (ps := [.aC b]) h
  | row k => injection e with e; subst e; exact bH (g := false) (ps := [.row k]) h
  | ptr k q => injection e with e; subst e; exact bH (g := false) (ps := [.ptr k q]) h
  | pV k q n sz i j => injection e with e; subst e; exact bH (g := false) (ps := [.pV k q n sz i j]) h
  | rel k sz i j => injection e with e; subst e; exact bH (g := false) (ps := [.rel k sz i j]) h
  | wG k sz i j n' sz' i' j' => injection e with e; subst e; exact bH (g := false) (ps := [.wG k sz i j n' sz' i' j']) h
  | zz t x => injection e with e; subst e; exact bH (g := false) (ps := [.zz t x]) h
  | jP k => injection e with e; subst e; exact bH (g := false) (ps := [.jP k]) h
  | sub k k' sz x y => injection e with e; subst e; exact bH (g := false) (ps := [.sub k k' sz x y]) h
  | tu k off n sz => injection e with e; subst e; exact bH (g := false) (ps := [.tu k off n sz]) h

theorem ic : ∀ (a b : List PV), cd (a ++ b) = cd a + cd b
 | [], b => by simp [cd]
 | p :: a, b => by simp [cd, ic a b, Nat.add_assoc]

theorem il : ∀ {ps : List PV} {n : Nat} {a b : List PV}, takeN ps n = some (a, b) → ps = a ++ b ∧ cd a = n
 | ps, 0, a, b, h => by
  have h' : takeN ps 0 = some ([], ps) := by cases ps <;> rfl
  rw [h'] at h
  simp only [Option.some.injEq, Prod.mk.injEq] at h
  obtain ⟨rfl, rfl⟩ := h
  exact ⟨rfl, rfl⟩
 | [], n + 1, a, b, h => by cases h
 | p :: ps, n + 1, a, b, h => by
  have h' : takeN (p :: ps) (n + 1) = (bif Nat.ble p.size (n + 1) && Nat.blt 0 p.size then
   (match takeN ps (n + 1 - p.size) with
    | some (a, b) => some (p :: a, b)
    | none => none) else none) := rfl
  rw [h'] at h
  cases hb : (Nat.ble p.size (n + 1) && Nat.blt 0 p.size) with
  | false => rw [hb] at h; cases h
  | true =>
   rw [hb] at h
   simp only [cond_true] at h
   split at h
   ·rename_i a' b' e
    simp only [Option.some.injEq, Prod.mk.injEq] at h
    obtain ⟨rfl, rfl⟩ := h
    obtain ⟨h1, h2⟩ := il e
    simp only [Bool.and_eq_true] at hb
    have := Nat.le_of_ble_eq_true hb.1
    exact ⟨by rw [h1]; rfl, by simp only [cd, h2]; omega⟩
   ·cases h

theorem b9.split {c : Cx} : ∀ {a b : List PV} {l : List Value}, b9 c (a ++ b) l → b9 c a (l.take (cd a)) ∧ b9 c b (l.drop (cd a))
 | [], b, l, h => ⟨by simp [cd]; rfl, by simpa [cd] using h⟩
 | p :: a, b, l, h => by
  obtain ⟨x, y, e, h1, h2⟩ := h
  obtain ⟨h3, h4⟩ := b9.split h2
  have hx := h1.len
  rw [e]
  have e1 : (x ++ y).take (cd (p :: a)) = x ++ y.take (cd a) := by
   rw [show cd (p :: a) = x.length + cd a by rw [hx]; rfl, List.take_length_add_append]
  have e2 : (x ++ y).drop (cd (p :: a)) = y.drop (cd a) := by
   rw [show cd (p :: a) = x.length + cd a by rw [hx]; rfl, List.drop_length_add_append]
  rw [e1, e2]
  exact ⟨⟨x, _, rfl, h1, h3⟩, h4⟩

theorem D0 {ps : List PV} {off n : Nat} {a m b : List PV} (h : Dc ps off n = some (a, m, b)) : ps = a ++ (m ++ b) ∧ cd a = off ∧ cd m = n := by
 unfold Dc at h
 split at h
 ·rename_i a' r e
  split at h
  ·rename_i m' b' e'
   simp only [Option.some.injEq, Prod.mk.injEq] at h
   obtain ⟨rfl, rfl, rfl⟩ := h
   obtain ⟨h1, h2⟩ := il e
   obtain ⟨h3, h4⟩ := il e'
   exact ⟨by rw [h1, h3], h2, h4⟩
  ·cases h
 ·cases h
theorem zF {c : Cx} {ps : List PV} {off n : Nat} {a m b : List PV} {l : List Value} (h : Dc ps off n = some (a, m, b)) (hl : b9 c ps l) :
  b9 c m ((l.drop off).take n) ∧ off + n ≤ l.length := by
 obtain ⟨e, h1, h2⟩ := D0 h
 have hlen := hl.len
 rw [e] at hl hlen
 have h3 := hl.split.2
 rw [h1] at h3
 have h4 := h3.split.1
 rw [h2] at h4
 exact ⟨h4, by rw [hlen, ic, ic, h1, h2]; omega⟩
theorem qn {c : Cx} {ps qs ps' : List PV} {off n : Nat} {l m : List Value} (h : sP ps off n qs = some ps') (hl : b9 c ps l) (hm : b9 c qs m) :
  b9 c ps' (l.take off ++ (m ++ l.drop (off + n))) ∧ m.length = n ∧ off + n ≤ l.length := by
 unfold sP at h
 split at h
 ·rename_i a m' b e
  cases hn : Nat.beq (cd qs) n with
  | false => rw [hn] at h; cases h
  | true =>
   rw [hn] at h
   simp only [cond_true, Option.some.injEq] at h
   subst h
   have hs : cd qs = n := Nat.eq_of_beq_eq_true hn
   obtain ⟨e1, h1, h2⟩ := D0 e
   have hle := (zF e hl).2
   rw [e1] at hl
   obtain ⟨h3, h4⟩ := hl.split
   rw [h1] at h3 h4
   have h5 := h4.split.2
   rw [h2, List.drop_drop] at h5
   exact ⟨h3.append (hm.append h5), by rw [hm.len, hs], hle⟩
 ·cases h

theorem du {t' t : Ty} {x : t'.D} {y : t.D} (h : lX t' t x = some y) : ∃ e : t' = t, e ▸ x = y := by
 unfold lX at h
 split at h
 ·rename_i e; exact ⟨e, by simpa using h⟩
 ·cases h

theorem Ah {c : Cx} {t : Ty} {ps r : List PV} {x : t.D} {l : List Value} (h : R5 t ps = some (x, r)) (hl : b9 c ps l) :
  Rd c.S c.w t (l.take t.size) x ∧ b9 c r (l.drop t.size) := by
 unfold R5 at h
 split at h
 ·rename_i t' y r'
  split at h
  ·rename_i z e
   simp only [Option.some.injEq, Prod.mk.injEq] at h
   obtain ⟨rfl, rfl⟩ := h
   obtain ⟨e2, rfl⟩ := du e
   subst e2
   obtain ⟨a, b, rfl, h1, h2⟩ := hl
   have := Rd.len h1
   rw [← this]
   simpa using ⟨h1, h2⟩
  ·cases h
 ·cases h
theorem Ei {c : Cx} : ∀ {t : Ty} {ps r : List PV} {x : t.D} {l : List Value}, Lu t ps = some (x, r) → b9 c ps l → Rd c.S c.w t (l.take t.size) x ∧ b9 c r (l.drop t.size)
 | .pair a b, ps, r, x, l, h, hl => by
  unfold Lu at h
  split at h
  ·rename_i x1 r1 e1
   split at h
   ·rename_i y1 r2 e2
    simp only [Option.some.injEq, Prod.mk.injEq] at h
    obtain ⟨rfl, rfl⟩ := h
    obtain ⟨h1, h2⟩ := Ei e1 hl
    obtain ⟨h3, h4⟩ := Ei e2 h2
    refine ⟨⟨_, _, ?_, h1, h3⟩, ?_⟩
    ·show l.take (a.size + b.size) = _
     rw [List.take_add]
    ·rw [List.drop_drop] at h4; exact h4
   ·cases h
  ·cases h
 | .int k, ps, r, x, l, h, hl => Ah h hl
 | .str, ps, r, x, l, h, hl => Ah h hl
 | .arr n t, ps, r, x, l, h, hl => Ah h hl
 | .bool, ps, r, x, l, h, hl => by
  unfold Lu at h
  split at h
  ·rename_i b r' e
   simp only [Option.some.injEq, Prod.mk.injEq] at h
   obtain ⟨rfl, rfl⟩ := h
   unfold QH at e
   split at e
   ·simp only [Option.some.injEq, Prod.mk.injEq] at e
    obtain ⟨rfl, rfl⟩ := e
    obtain ⟨a, b', rfl, h1, h2⟩ := hl
    have h1' : a = [.bool _] := h1
    subst h1'
    exact ⟨rfl, h2⟩
   ·cases e
  ·exact Ah h hl
 | .sl t, ps, r, x, l, h, hl => by
  unfold Lu at h
  split at h
  ·rename_i r' e
   simp only [Option.some.injEq, Prod.mk.injEq] at h
   obtain ⟨rfl, rfl⟩ := h
   unfold Pd at e
   split at e
   ·simp only [Option.some.injEq] at e
    subst e
    obtain ⟨a, b', rfl, h1, h2⟩ := hl
    have h1' : a = [.slice none 0 0] := h1.1
    subst h1'
    exact ⟨⟨none, 0, rfl, Nat.le_refl _, by simp [maxLen], fun h => absurd h (by simp)⟩, h2⟩
   ·cases e
  ·exact Ah h hl
 | .err, ps, r, x, l, h, hl => by
  change IQ ps = some (x, r) at h
  unfold IQ at h
  split at h
  ·simp only [Option.some.injEq, Prod.mk.injEq] at h
   obtain ⟨rfl, rfl⟩ := h
   obtain ⟨a, b', rfl, h1, h2⟩ := hl
   have h1' : a = [.nilIface] := h1.1
   subst h1'
   exact ⟨.inl ⟨rfl, rfl⟩, h2⟩
  ·rename_i y r'
   simp only [Option.some.injEq, Prod.mk.injEq] at h
   obtain ⟨rfl, rfl⟩ := h
   obtain ⟨a', b', rfl, h1, h2⟩ := hl
   have hlen : a'.length = 1 := Rd.len (S := c.S) (w := c.w) (t := .err) h1
   refine ⟨?_, ?_⟩
   ·rw [show Ty.err.size = a'.length from hlen.symm, List.take_left]; exact h1
   ·rw [show Ty.err.size = a'.length from hlen.symm, List.drop_left]; exact h2
  ·cases h
theorem fA {c : Cx} {t : Ty} {ps : List PV} {x : t.D} {l : List Value} (h : kU t ps = some x) (hl : b9 c ps l) : Rd c.S c.w t l x := by
 unfold kU at h
 split at h
 ·rename_i y e
  simp only [Option.some.injEq] at h
  subst h
  obtain ⟨h1, h2⟩ := Ei e hl
  have h3 : l.drop t.size = [] := h2
  have : l.take t.size = l := List.take_of_length_le (by simpa using h3)
  rwa [this] at h1
 ·cases h
end Go.Sx
/-
 Sx, part GA: operators: shifts, strings, aggregates compared.
-/
namespace Go.Sx
open Go.RowKit

section
variable {P : Program} {E : Env} {w0 : cz} {w : World} {ρ : Nat → Value} {s s' : St} {a : Act} {o : Oper}

theorem E6 {op : BinOp} {k k' : IntKind} {t : TypeId} {m n r : Int} {p : Option Prop} (h : vL op k m n = some (p, r)) (hp : l6 p) :
  (binOp op t (.int k m) (.int k' n)).run P w = .ok (.int k r) w := by
 have hpos : ∀ j : Nat, (0 : Int) ≤ 2 ^ j := fun j => Int.le_of_lt (Int.pow_pos (by omega))
 cases op <;> simp only [vL, Option.some.injEq, reduceCtorEq, Prod.mk.injEq] at h
 ·obtain ⟨rfl, rfl⟩ := h
  have hp : 0 ≤ n := hp
  simp only [binOp, Op.shift, if_neg (show ¬ n < 0 by omega)]
  rfl
 ·obtain ⟨rfl, rfl⟩ := h
  have hp : 0 ≤ n := hp
  simp only [binOp, Op.shift, if_neg (show ¬ n < 0 by omega)]
  rw [Int.fdiv_eq_ediv_of_nonneg _ (hpos _)]
  rfl
theorem Iq {op : BinOp} {k : IntKind} {m n r : Int} {p : Option Prop} (hm : IR k m) (h : vL op k m n = some (p, r)) : IR k r := by
 cases op <;> simp only [vL, Option.some.injEq, reduceCtorEq, Prod.mk.injEq] at h
 ·obtain ⟨_, rfl⟩ := h; exact yQ ..
 ·obtain ⟨_, rfl⟩ := h
  have hpos : (0 : Int) < 2 ^ (min n.toNat k.bits) := Int.pow_pos (by omega)
  generalize (2 : Int) ^ (min n.toNat k.bits) = d at hpos
  have a1 : 0 ≤ m → 0 ≤ m / d ∧ m / d ≤ m := fun h => ⟨Int.ediv_nonneg h (by omega), Int.ediv_le_self d h⟩
  have a2 : m < 0 → m ≤ m / d ∧ m / d < 0 := fun h => by
   refine ⟨(Int.le_ediv_iff_mul_le hpos).2 ?_, Int.ediv_neg_of_neg_of_pos h hpos⟩
   have := Int.mul_le_mul_of_nonpos_left (show m ≤ 0 by omega) (show (1 : Int) ≤ d by omega)
   omega
  rcases Int.lt_or_le m 0 with h | h
  ·have := a2 h; cases k <;> simp only [IR] at hm ⊢ <;> omega
  ·have := a1 h; cases k <;> simp only [IR] at hm ⊢ <;> omega
theorem tA (op : BinOp) (t : TypeId) (x y : Operand) (m n : ByteArray) :
  (eqGuard op t x y (.string m) (.string n)).run P w = .ok () w := by
 unfold eqGuard; cases op <;> rfl
theorem bytes_beq (a b : List Int) (ha : bN a) (hb : bN b) : ((mkStr a).toList == (mkStr b).toList) = decide (a = b) := by
 rw [Bool.eq_iff_iff, beq_iff_eq, decide_eq_true_eq, ByteArray.toList_eq, ByteArray.toList_eq]
 constructor
 ·intro h
  exact xq ha hb (Go.WideShapes.bytes_inj h)
 ·intro h; rw [h]
theorem zA (a b : List Int) : mkStr a ++ mkStr b = mkStr (a ++ b) := by
 apply Go.WideShapes.bytes_inj
 simp [mkStr]
theorem vd {a b : List Int} (ha : bN a) (hb : bN b) (h : a.length + b.length ≤ 9223372036854775807) : bN (a ++ b) :=
 ⟨by simpa using h, fun x hx => by exact (List.mem_append.1 hx).elim (ha.2 x) (hb.2 x)⟩
theorem wN {c : Cx} {l : List Int} (h : bN l) : aK c (.one (.d .str l)) (.string (mkStr l)) := aK.ki rfl (show Rd _ _ _ _ _ from ⟨rfl, h⟩)
theorem NP {c : Cx} {op : BinOp} {t : TypeId} {a b : List Int} {p : Option Prop} {q : PV} (ha : bN a) (hb : bN b) (h : Ds op a b = some (p, q)) (hp : l6 p) :
  ∃ v, (binOp op t (.string (mkStr a)) (.string (mkStr b))).run P w = .ok v w ∧ aK c (.one q) v := by
 cases op <;> simp only [Ds, Option.some.injEq, reduceCtorEq, Prod.mk.injEq] at h
 ·obtain ⟨rfl, rfl⟩ := h
  have hp : a.length + b.length ≤ 9223372036854775807 := hp
  refine ⟨.string (mkStr (a ++ b)), ?_, wN (vd ha hb hp)⟩
  simp only [binOp, Op.stringOp, dh]
  rw [if_neg (by simp only [IntKind.max, IntKind.bits, IntKind.signed]; simp; omega), zA]
  rfl
 ·obtain ⟨rfl, rfl⟩ := h
  refine ⟨_, ?_, fC (decide (a = b))⟩
  simp only [binOp, Op.stringOp, bytes_beq a b ha hb]; rfl
 ·obtain ⟨rfl, rfl⟩ := h
  refine ⟨_, ?_, fC (!(decide (a = b)))⟩
  simp only [binOp, Op.stringOp, bytes_beq a b ha hb]; rfl
theorem AW {c : Cx} {x : SV} {v : Value} (h : aK c x v) (hx : x.isAgg = true) : ∃ cs, v = .agg cs := by
 cases x with
 | one p =>
  cases p with
  | d t y =>
   have hg : t.agg = true := hx
   have h : dW c t.agg [.d t y] v := h
   rw [hg] at h
   obtain ⟨cs, e, _⟩ := h
   exact ⟨cs, e⟩
  | _ => cases hx
 | agg ps => obtain ⟨cs, e, _⟩ := h; exact ⟨cs, e⟩
 | gB es => cases hx
 | lT b p => cases hx
theorem Ct {op : BinOp} {t : TypeId} {x y : SV} {v v' : Value} {b : Bool} {c : Cx} {o1 o2 : Operand} {E : Env} (hE : aY P E) (hw : c.w = w) (hx : aK c x v) (hy : aK c y v') (h : Vx E op t x y = some b) :
  ((do eqGuard op t o1 o2 v v'; binOp op t v v') : Sem Value).run P w = .ok (.bool b) w := by
 unfold Vx at h
 split at h
 ·rename_i u hu
  cases hg : x.isAgg && y.isAgg with
  | false => rw [hg] at h; cases h
  | true =>
   rw [hg] at h
   simp only [cond_true] at h
   simp only [Bool.and_eq_true] at hg
   split at h
   ·rename_i ps qs hps hqs
    split at h
    ·rename_i a b' ha hb
     have T := hE.eq t u hu
     obtain ⟨cs, rfl⟩ := AW hx hg.1
     obtain ⟨ds, rfl⟩ := AW hy hg.2
     have r1 := fA ha (dZ hx hps)
     have r2 := fA hb (dZ hy hqs)
     subst hw
     have hrun := EV (cs := cs) (ds := ds) T.is T.flat T.key (by omega) T.agg r1 r2
     have hgd : (eqGuard op t o1 o2 (.agg cs) (.agg ds)).run P c.w = .ok () c.w := by
      unfold eqGuard
      cases op <;> simp [T.guard]
     cases op <;> simp only [Option.some.injEq, reduceCtorEq] at h
     ·subst h
      simp only [Sem.run_bind, hgd, Result.andThen_ok, binOp, hrun, Sem.run_pure]
     ·subst h
      simp only [Sem.run_bind, hgd, Result.andThen_ok, binOp, hrun, Sem.run_pure]
    ·cases h
   ·cases h
 ·cases h

theorem Eb {c : Cx} {p : PV} {v : Value} {b : Bool} (hb : JE p = some b) (h : aK c (.one p) v) : ∃ A, v = .pointer A ∧ A.isNone = b := by
 have hn : p ≠ .any := fun e => by subst e; cases hb
 have ha : p.agg = false := by cases p <;> first | rfl | cases hb
 have h1 := aK.bb ha hn h
 unfold JE at hb
 split at hb
 ·cases hb; exact ⟨none, by simpa using h1.1, rfl⟩
 ·cases hb; obtain ⟨_, b, _, e⟩ := h1; exact ⟨_, by simpa using e, rfl⟩
 ·cases hb; obtain ⟨_, _, b, _, e⟩ := h1; exact ⟨_, by simpa using e, rfl⟩
 ·cases hb; obtain ⟨_, b, o, n, cp, _, _, e⟩ := h1; exact ⟨_, by simpa using e, rfl⟩
 ·cases hb; obtain ⟨_, _, b, o, n, cp, _, _, e⟩ := h1; exact ⟨_, by simpa using e, rfl⟩
 ·cases hb; obtain ⟨b, o, cs, e, _⟩ := h1; exact ⟨_, by simpa using e, rfl⟩
 ·cases hb
theorem Dr {c : Cx} {op : BinOp} {t : TypeId} {x y : Operand} {sx sy : SV} {vx vy : Value} {b : Bool} (hE : aY P E) (hx : aK c sx vx) (hy : aK c sy vy) (hb : Cr E op t sx sy = some b) :
  (do eqGuard op t x y vx vy; binOp op t vx vy : Sem Value).run P w = .ok (.bool b) w := by
 unfold Cr at hb
 split at hb
 ·rename_i sz by_ e z ty p hti
  obtain ⟨hu, _⟩ := (hE t _ hti).kind
  obtain ⟨hy1, _⟩ := aK.bb rfl (by simp) hy
  simp only [List.cons.injEq, and_true] at hy1
  subst hy1
  split at hb
  ·rename_i q hq
   obtain ⟨A, rfl, hA⟩ := Eb hq hx
   cases hb
   have hg : (eqGuard .eql t x y (.pointer A) (.pointer none)).run P w = .ok () w := by unfold eqGuard; rfl
   have he : (Op.equal t (.pointer A) (.pointer none)).run P w = .ok A.isNone w := by
    unfold Op.equal Op.maxDepth Op.equalIn
    simp only [Sem.run_bind, run_underlying hu, Result.andThen_ok]
    cases A <;> rfl
   simp only [Sem.run_bind, hg, Result.andThen_ok, binOp, he, Sem.run_pure, hA]
  ·rename_i q hq
   obtain ⟨A, rfl, hA⟩ := Eb hq hx
   cases hb
   have hg : (eqGuard .neq t x y (.pointer A) (.pointer none)).run P w = .ok () w := by unfold eqGuard; rfl
   have he : (Op.equal t (.pointer A) (.pointer none)).run P w = .ok A.isNone w := by
    unfold Op.equal Op.maxDepth Op.equalIn
    simp only [Sem.run_bind, run_underlying hu, Result.andThen_ok]
    cases A <;> rfl
   simp only [Sem.run_bind, hg, Result.andThen_ok, binOp, he, Sem.run_pure, hA]
  ·cases hb
 ·cases hb
theorem Ae {op : BinOp} {t t' : TypeId} {x y : Operand} {b : Bool} {R : Act → World → Prop} (hE : aY P E) (h : Ok w0 ρ s a w) (ho : o.op = .binOp op t x y t')
  (hb : Co E op t (ev s x) y = some b) (hR : Up w0 (s.put o.dst (.one (.d .bool b))) R) : bD P o a w R := by
 unfold Co at hb
 split at hb
 ·rename_i sz by_ ms z ty e hti hxx
  obtain ⟨hu, _⟩ := (hE t _ hti).kind
  have hx := h.ev x
  rw [hxx] at hx
  have hy : a.eval (.const .nilIface) = .nilIface := rfl
  have hg : ∀ op v, (eqGuard op t x (.const .nilIface) v .nilIface).run P w = .ok () w := fun op v => by unfold eqGuard; cases op <;> cases v <;> first | rfl | simp
  have he : (Op.equal t (a.eval x) .nilIface).run P w = .ok (!(e : Bool)) w := by
   unfold Op.equal Op.maxDepth Op.equalIn
   simp only [Sem.run_bind, run_underlying hu, Result.andThen_ok]
   rcases (aK.bb rfl (by simp) hx : Rd _ _ .err [a.eval x] e) with ⟨h1, h2⟩ | ⟨h1, u, v, h2⟩
   ·have h2 : a.eval x = .nilIface := by simpa using h2
    have h1 : (e : Bool) = false := h1
    rw [h2, h1]; rfl
   ·have h2 : a.eval x = .iface u v := by simpa using h2
    have h1 : (e : Bool) = true := h1
    rw [h2, h1]; rfl
  have hv : ∀ u v, binOp .eql t (.iface u v) .nilIface = (do pure (.bool (← Op.equal t (.iface u v) .nilIface))) ∧ binOp .neq t (.iface u v) .nilIface = (do pure (.bool (!(← Op.equal t (.iface u v) .nilIface)))) := fun u v => ⟨rfl, rfl⟩
  have hn : binOp .eql t .nilIface .nilIface = (do pure (.bool (← Op.equal t .nilIface .nilIface))) ∧ binOp .neq t .nilIface .nilIface = (do pure (.bool (!(← Op.equal t .nilIface .nilIface)))) := ⟨rfl, rfl⟩
  have hbin : binOp .eql t (a.eval x) .nilIface = (do pure (.bool (← Op.equal t (a.eval x) .nilIface))) ∧ binOp .neq t (a.eval x) .nilIface = (do pure (.bool (!(← Op.equal t (a.eval x) .nilIface)))) := by
   rcases (aK.bb rfl (by simp) hx : Rd _ _ .err [a.eval x] e) with ⟨h1, h2⟩ | ⟨h1, u, v, h2⟩
   ·rw [show a.eval x = .nilIface by simpa using h2]; exact hn
   ·rw [show a.eval x = .iface u v by simpa using h2]; exact hv u v
  split at hb
  ·cases hb
   refine ae h (eQ ho) ?_ (fC _) hR
   rw [hy, hbin.1]
   simp only [Sem.run_bind, hg, Result.andThen_ok, he, Sem.run_pure]
  ·cases hb
   refine ae h (eQ ho) ?_ (fC _) hR
   rw [hy, hbin.2]
   simp only [Sem.run_bind, hg, Result.andThen_ok, he, Sem.run_pure, Bool.not_not]
  ·cases hb
 ·cases hb
theorem Ia {op : BinOp} {t t' : TypeId} {x y : Operand} {wr : Bool} {p : Option Prop} {R : Act → World → Prop} (hE : aY P E) (h : Ok w0 ρ s a w) (ho : o.op = .binOp op t x y t')
  (hs : FX E wr s o.dst op t (ev s x) (ev s y) = some (p, s')) (hp : l6 p) (hR : Up w0 s' R) : bD P o a w R := by
 unfold FX at hs
 split at hs
 ·rename_i k m k' n hx hy
  have ex := a8 (h.ev x) hx
  have ey := a8 (h.ev y) hy
  split at hs
  ·rename_i q r hr
   simp only [Option.some.injEq, Prod.mk.injEq] at hs
   obtain ⟨rfl, rfl⟩ := hs
   refine ae h (eQ ho) ?_ (fH (Iq (cv (h.ev x) hx) hr)) hR
   rw [ex, ey]
   simp only [Sem.run_bind, iQ, Result.andThen_ok, E6 hr hp]
  ·split at hs
   ·rename_i hk
    subst hk
    split at hs
    ·rename_i r hr
     simp only [ok, Option.some.injEq, Prod.mk.injEq] at hs
     obtain ⟨_, rfl⟩ := hs
     refine ae h (eQ ho) ?_ (fC r) hR
     rw [ex, ey]
     simp only [Sem.run_bind, iQ, Result.andThen_ok, LD hr]
    ·split at hs
     ·rename_i q r hr
      simp only [Option.some.injEq, Prod.mk.injEq] at hs
      obtain ⟨rfl, rfl⟩ := hs
      refine ae h (eQ ho) ?_ (fH (Hc (cv (h.ev x) hx) (cv (h.ev y) hy) hr hp)) hR
      rw [ex, ey]
      simp only [Sem.run_bind, iQ, Result.andThen_ok, FN (cv (h.ev x) hx) hr hp]
     ·cases hs
   ·cases hs
 ·split at hs
  ·rename_i b c hx hy
   have ex := iu (h.ev x) hx
   have ey := iu (h.ev y) hy
   cases hb : rn E t with
   | false => rw [hb] at hs; cases hs
   | true =>
    rw [hb] at hs
    simp only [Bool.not_true, cond_false] at hs
    split at hs
    ·rename_i r hr
     simp only [ok, Option.some.injEq, Prod.mk.injEq] at hs
     obtain ⟨_, rfl⟩ := hs
     refine ae h (eQ ho) ?_ (fC r) hR
     have hu := Dp hE hb
     rw [ex, ey]
     simp only [Sem.run_bind, sq, Result.andThen_ok, BP hu hr]
    ·cases hs
  ·split at hs
   ·rename_i l m hx hy
    obtain ⟨ex, bx⟩ := pb (h.ev x) hx
    obtain ⟨ey, by'⟩ := pb (h.ev y) hy
    split at hs
    ·rename_i q v hr
     simp only [Option.some.injEq, Prod.mk.injEq] at hs
     obtain ⟨rfl, rfl⟩ := hs
     obtain ⟨u, hu, hv⟩ := NP (P := P) (w := w) (c := cx w0 ρ s w) (t := t) bx by' hr hp
     refine ae h (eQ ho) ?_ hv hR
     rw [ex, ey]
     simp only [Sem.run_bind, tA, Result.andThen_ok, hu]
    ·cases hs
   ·split at hs
    ·rename_i b hb
     simp only [ok, Option.some.injEq, Prod.mk.injEq] at hs
     obtain ⟨_, rfl⟩ := hs
     exact ae h (eQ ho) (Ct (c := cx w0 ρ s w) hE rfl (h.ev x) (h.ev y) hb) (fC b) hR
    ·split at hs
     ·rename_i b hb
      simp only [ok, Option.some.injEq, Prod.mk.injEq] at hs
      obtain ⟨_, rfl⟩ := hs
      exact ae h (eQ ho) (Dr hE (h.ev x) (h.ev y) hb) (nY b) hR
     ·cases hs
end
end Go.Sx
