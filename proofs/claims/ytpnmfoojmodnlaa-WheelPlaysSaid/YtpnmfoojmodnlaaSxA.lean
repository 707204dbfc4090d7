/-
  Sx, part A: data of Go types as plain Lean data, and what it means that cells of the memory read as such data.
-/
import Derived.WalkKit
namespace Go.Sx

/-- The shapes of data that the executor knows. A struct of two or more fields is a pair, nested to the right. -/
inductive Ty where
  | int (k : IntKind)
  | bool
  | str
  | sl (t : Ty)
  | arr (n : Nat) (t : Ty)
  | pair (a b : Ty)
  | ref (p : Nat)
  | err
  | mp (kk : IntKind) (t : Ty)

def Ty.decEq : (a b : Ty) → Decidable (a = b)
  | .int j, .int k => if h : j = k then .isTrue (by rw [h]) else .isFalse (fun e => h (by injection e))
  | .bool, .bool => .isTrue rfl
  | .str, .str => .isTrue rfl
  | .sl a, .sl b => match Ty.decEq a b with
    | .isTrue h => .isTrue (by rw [h])
    | .isFalse h => .isFalse (fun e => h (by injection e))
  | .arr n a, .arr m b => if hn : n = m then (match Ty.decEq a b with
      | .isTrue h => .isTrue (by rw [h, hn])
      | .isFalse h => .isFalse (fun e => h (by injection e))) else .isFalse (fun e => hn (by injection e))
  | .pair a b, .pair c d => match Ty.decEq a c with
    | .isTrue h => (match Ty.decEq b d with
      | .isTrue h2 => .isTrue (by rw [h, h2])
      | .isFalse h2 => .isFalse (fun e => h2 (by injection e)))
    | .isFalse h => .isFalse (fun e => h (by injection e))
  | .int _, .bool => .isFalse (fun e => by cases e)
  | .int _, .str => .isFalse (fun e => by cases e)
  | .int _, .sl _ => .isFalse (fun e => by cases e)
  | .int _, .arr _ _ => .isFalse (fun e => by cases e)
  | .int _, .pair _ _ => .isFalse (fun e => by cases e)
  | .bool, .int _ => .isFalse (fun e => by cases e)
  | .bool, .str => .isFalse (fun e => by cases e)
  | .bool, .sl _ => .isFalse (fun e => by cases e)
  | .bool, .arr _ _ => .isFalse (fun e => by cases e)
  | .bool, .pair _ _ => .isFalse (fun e => by cases e)
  | .str, .int _ => .isFalse (fun e => by cases e)
  | .str, .bool => .isFalse (fun e => by cases e)
  | .str, .sl _ => .isFalse (fun e => by cases e)
  | .str, .arr _ _ => .isFalse (fun e => by cases e)
  | .str, .pair _ _ => .isFalse (fun e => by cases e)
  | .sl _, .int _ => .isFalse (fun e => by cases e)
  | .sl _, .bool => .isFalse (fun e => by cases e)
  | .sl _, .str => .isFalse (fun e => by cases e)
  | .sl _, .arr _ _ => .isFalse (fun e => by cases e)
  | .sl _, .pair _ _ => .isFalse (fun e => by cases e)
  | .arr _ _, .int _ => .isFalse (fun e => by cases e)
  | .arr _ _, .bool => .isFalse (fun e => by cases e)
  | .arr _ _, .str => .isFalse (fun e => by cases e)
  | .arr _ _, .sl _ => .isFalse (fun e => by cases e)
  | .arr _ _, .pair _ _ => .isFalse (fun e => by cases e)
  | .pair _ _, .int _ => .isFalse (fun e => by cases e)
  | .pair _ _, .bool => .isFalse (fun e => by cases e)
  | .pair _ _, .str => .isFalse (fun e => by cases e)
  | .pair _ _, .sl _ => .isFalse (fun e => by cases e)
  | .pair _ _, .arr _ _ => .isFalse (fun e => by cases e)
  | .ref p, .ref q => if h : p = q then .isTrue (by rw [h]) else .isFalse (fun e => h (by injection e))
  | .err, .err => .isTrue rfl
  | .ref _, .int _ => .isFalse (fun e => by cases e)
  | .ref _, .bool => .isFalse (fun e => by cases e)
  | .ref _, .str => .isFalse (fun e => by cases e)
  | .ref _, .sl _ => .isFalse (fun e => by cases e)
  | .ref _, .arr _ _ => .isFalse (fun e => by cases e)
  | .ref _, .pair _ _ => .isFalse (fun e => by cases e)
  | .err, .int _ => .isFalse (fun e => by cases e)
  | .err, .bool => .isFalse (fun e => by cases e)
  | .err, .str => .isFalse (fun e => by cases e)
  | .err, .sl _ => .isFalse (fun e => by cases e)
  | .err, .arr _ _ => .isFalse (fun e => by cases e)
  | .err, .pair _ _ => .isFalse (fun e => by cases e)
  | .int _, .ref _ => .isFalse (fun e => by cases e)
  | .bool, .ref _ => .isFalse (fun e => by cases e)
  | .str, .ref _ => .isFalse (fun e => by cases e)
  | .sl _, .ref _ => .isFalse (fun e => by cases e)
  | .arr _ _, .ref _ => .isFalse (fun e => by cases e)
  | .pair _ _, .ref _ => .isFalse (fun e => by cases e)
  | .int _, .err => .isFalse (fun e => by cases e)
  | .bool, .err => .isFalse (fun e => by cases e)
  | .str, .err => .isFalse (fun e => by cases e)
  | .sl _, .err => .isFalse (fun e => by cases e)
  | .arr _ _, .err => .isFalse (fun e => by cases e)
  | .pair _ _, .err => .isFalse (fun e => by cases e)
  | .ref _, .err => .isFalse (fun e => by cases e)
  | .err, .ref _ => .isFalse (fun e => by cases e)
  | .mp j a, .mp k b => if hn : j = k then (match Ty.decEq a b with
      | .isTrue h => .isTrue (by rw [h, hn])
      | .isFalse h => .isFalse (fun e => h (by injection e))) else .isFalse (fun e => hn (by injection e))
  | .mp _ _, .int _ => .isFalse (fun e => by cases e)
  | .int _, .mp _ _ => .isFalse (fun e => by cases e)
  | .mp _ _, .bool => .isFalse (fun e => by cases e)
  | .bool, .mp _ _ => .isFalse (fun e => by cases e)
  | .mp _ _, .str => .isFalse (fun e => by cases e)
  | .str, .mp _ _ => .isFalse (fun e => by cases e)
  | .mp _ _, .sl _ => .isFalse (fun e => by cases e)
  | .sl _, .mp _ _ => .isFalse (fun e => by cases e)
  | .mp _ _, .arr _ _ => .isFalse (fun e => by cases e)
  | .arr _ _, .mp _ _ => .isFalse (fun e => by cases e)
  | .mp _ _, .pair _ _ => .isFalse (fun e => by cases e)
  | .pair _ _, .mp _ _ => .isFalse (fun e => by cases e)
  | .mp _ _, .ref _ => .isFalse (fun e => by cases e)
  | .ref _, .mp _ _ => .isFalse (fun e => by cases e)
  | .mp _ _, .err => .isFalse (fun e => by cases e)
  | .err, .mp _ _ => .isFalse (fun e => by cases e)
instance : DecidableEq Ty := Ty.decEq

/-- A number fits its kind. -/
def IR : IntKind → Int → Prop
  | .i64, n => -9223372036854775808 ≤ n ∧ n ≤ 9223372036854775807
  | .u64, n => 0 ≤ n ∧ n ≤ 18446744073709551615
  | .i32, n => -2147483648 ≤ n ∧ n ≤ 2147483647
  | .u32, n => 0 ≤ n ∧ n ≤ 4294967295
  | .i16, n => -32768 ≤ n ∧ n ≤ 32767
  | .u16, n => 0 ≤ n ∧ n ≤ 65535
  | .i8, n => -128 ≤ n ∧ n ≤ 127
  | .u8, n => 0 ≤ n ∧ n ≤ 255
theorem IR_zero (k : IntKind) : IR k 0 := by cases k <;> simp [IR]
/-- Strings are read as lists of their bytes. -/
def mkStr (l : List Int) : ByteArray := ⟨(l.map fun n => UInt8.ofNat n.toNat).toArray⟩
def ofStr (s : ByteArray) : List Int := s.data.toList.map fun b => (b.toNat : Int)
def isBytes (l : List Int) : Prop := l.length ≤ 9223372036854775807 ∧ ∀ b ∈ l, 0 ≤ b ∧ b ≤ 255
theorem mkStr_ofStr (s : ByteArray) : mkStr (ofStr s) = s := by
  have : ((s.data.toList.map fun b => (b.toNat : Int)).map fun n => UInt8.ofNat n.toNat) = s.data.toList := by
    rw [List.map_map]
    conv => rhs; rw [← List.map_id s.data.toList]
    refine List.map_congr_left fun b _ => ?_
    simp
  unfold mkStr ofStr
  rw [this]
theorem ofStr_mkStr {l : List Int} (h : isBytes l) : ofStr (mkStr l) = l := by
  unfold mkStr ofStr
  simp only [List.map_map]
  conv => rhs; rw [← List.map_id l]
  refine List.map_congr_left fun b hb => ?_
  have := h.2 b hb
  simp only [Function.comp, id, UInt8.toNat_ofNat']
  omega
theorem ofStr_length (s : ByteArray) : (ofStr s).length = s.size := by unfold ofStr; rw [List.length_map, Array.length_toList]; rfl
theorem isBytes_ofStr (s : ByteArray) (h : s.size ≤ 9223372036854775807) : isBytes (ofStr s) := by
  refine ⟨by rw [ofStr_length]; exact h, ?_⟩
  intro b hb
  obtain ⟨c, _, rfl⟩ := List.mem_map.1 hb
  have := c.toNat_lt
  omega
theorem mkStr_inj {a b : List Int} (ha : isBytes a) (hb : isBytes b) (h : mkStr a = mkStr b) : a = b := by
  rw [← ofStr_mkStr ha, ← ofStr_mkStr hb, h]
theorem mkStr_size (l : List Int) : (mkStr l).size = l.length := by simp [mkStr, ByteArray.size]

/-- The Lean data of a shape. -/
@[reducible] def Ty.D : Ty → Type
  | .int _ => Int
  | .bool => Bool
  | .str => List Int
  | .sl t => List t.D
  | .arr _ t => List t.D
  | .pair a b => a.D × b.D
  | .ref _ => Int
  | .err => Bool
  | .mp _ t => List (Int × t.D)

/-- How many cells it takes. -/
def Ty.size : Ty → Nat
  | .int _ => 1
  | .bool => 1
  | .str => 1
  | .sl _ => 1
  | .arr n t => n * t.size
  | .pair a b => a.size + b.size
  | .ref _ => 1
  | .err => 1
  | .mp _ _ => 1

/-- Is its value an aggregate? -/
def Ty.agg : Ty → Bool
  | .arr _ _ => true
  | .pair _ _ => true
  | _ => false

/-- The zero data. -/
def Ty.zero : (t : Ty) → t.D
  | .int _ => (0 : Int)
  | .bool => false
  | .str => []
  | .sl _ => []
  | .arr n t => List.replicate n t.zero
  | .pair a b => (a.zero, b.zero)
  | .ref _ => (-1 : Int)
  | .err => false
  | .mp _ _ => []

/-- Element i of a list of data; the zero data behind its end. -/
def nth (t : Ty) (xs : List t.D) (i : Nat) : t.D := xs.getD i t.zero

/-- The cells cs read, in the world w, as the data x; memory is followed in blocks of S alone. -/
def Rd (S : Nat → Prop) (w : World) : (t : Ty) → List Value → t.D → Prop
  | .int k, cs, x => cs = [.int k x] ∧ IR k x
  | .bool, cs, x => cs = [.bool x]
  | .str, cs, x => cs = [.string (mkStr x)] ∧ isBytes x
  | .sl t, cs, xs => ∃ A c, cs = [.slice A xs.length c] ∧ xs.length ≤ c ∧ c ≤ maxLen ∧
      (0 < xs.length → ∃ b o, A = some ⟨b, o, none⟩ ∧ S b ∧ ∀ (i : Nat) x, xs[i]? = some x →
        ∃ l, (∀ (j : Nat) v, l[j]? = some v → w.cell? ⟨b, o + (i * t.size + j), none⟩ = some v) ∧ Rd S w t l x)
  | .arr n t, cs, xs => xs.length = n ∧ cs.length = n * t.size ∧ ∀ (i : Nat) x, xs[i]? = some x → Rd S w t ((cs.drop (i * t.size)).take t.size) x
  | .pair a b, cs, x => ∃ l m, cs = l ++ m ∧ Rd S w a l x.1 ∧ Rd S w b m x.2
  | .ref _, cs, x => (x = -1 ∧ cs = [.pointer none]) ∨ (0 ≤ (x : Int) ∧ cs = [.pointer (some ⟨Int.toNat x, 0, none⟩)])
  | .err, cs, x => (x = false ∧ cs = [.nilIface]) ∨ (x = true ∧ ∃ t v, cs = [.iface t v])
  | .mp kk t, cs, xs => (xs = [] ∧ cs = [.map none]) ∨ ∃ b es clock, cs = [.map (some b)] ∧ S b ∧ w.heap[b]? = some (.map es clock) ∧ es.toList.length = xs.length ∧
      ∀ (i : Nat) x, xs[i]? = some x → ∃ e, es.toList[i]? = some e ∧ e.key = .int kk x.1 ∧ IR kk x.1 ∧ Rd S w t [e.val] x.2

theorem Rd.len {S : Nat → Prop} {w : World} : ∀ {t : Ty} {cs : List Value} {x : t.D}, Rd S w t cs x → cs.length = t.size
  | .int _, _, _, h => by rw [h.1]; rfl
  | .bool, _, _, h => by rw [show _ = _ from h]; rfl
  | .str, _, _, h => by rw [h.1]; rfl
  | .sl _, _, _, h => by obtain ⟨A, c, h, _⟩ := h; rw [h]; rfl
  | .arr _ _, _, _, h => h.2.1
  | .pair _ _, _, _, h => by
    obtain ⟨l, m, h, h1, h2⟩ := h
    rw [h, List.length_append, Rd.len h1, Rd.len h2]; rfl
  | .ref _, _, _, h => by rcases h with ⟨_, h⟩ | ⟨_, h⟩ <;> (rw [h]; rfl)
  | .err, _, _, h => by rcases h with ⟨_, h⟩ | ⟨_, _, _, h⟩ <;> (rw [h]; rfl)
  | .mp _ _, _, _, h => by rcases h with ⟨_, h⟩ | ⟨_, _, _, h, _⟩ <;> (rw [h]; rfl)

/-- The world w' has, in the blocks of S, the cells that w has; and S' has those blocks. -/
def Keeps (S : Nat → Prop) (w : World) (S' : Nat → Prop) (w' : World) : Prop :=
  ∀ b, S b → S' b ∧ w'.heap[b]? = w.heap[b]?

theorem Keeps.cell {S S' : Nat → Prop} {w w' : World} (h : Keeps S w S' w') {b o : Nat} (hb : S b) : w'.cell? ⟨b, o, none⟩ = w.cell? ⟨b, o, none⟩ := by
  simp only [World.cell?, (h b hb).2]
theorem Keeps.refl (S : Nat → Prop) (w : World) : Keeps S w S w := fun _ h => ⟨h, rfl⟩
theorem Keeps.trans {S S' S'' : Nat → Prop} {w w' w'' : World} (h : Keeps S w S' w') (h' : Keeps S' w' S'' w'') : Keeps S w S'' w'' :=
  fun b hb => ⟨(h' b (h b hb).1).1, ((h' b (h b hb).1).2).trans (h b hb).2⟩

theorem Rd.mono {S S' : Nat → Prop} {w w' : World} (k : Keeps S w S' w') : ∀ {t : Ty} {cs : List Value} {x : t.D}, Rd S w t cs x → Rd S' w' t cs x
  | .int _, _, _, h => h
  | .bool, _, _, h => h
  | .str, _, _, h => h
  | .sl t, _, _, h => by
    obtain ⟨A, c, h1, h2, h3, h4⟩ := h
    refine ⟨A, c, h1, h2, h3, fun hp => ?_⟩
    obtain ⟨b, o, e, hS, hx⟩ := h4 hp
    refine ⟨b, o, e, (k b hS).1, fun i x hi => ?_⟩
    obtain ⟨l, hl, hr⟩ := hx i x hi
    exact ⟨l, fun j v hv => (k.cell hS).trans (hl j v hv), hr.mono k⟩
  | .arr n t, _, _, h => ⟨h.1, h.2.1, fun i x hi => (h.2.2 i x hi).mono k⟩
  | .pair a b, _, _, h => by
    obtain ⟨l, m, e, h1, h2⟩ := h
    exact ⟨l, m, e, h1.mono k, h2.mono k⟩
  | .ref _, _, _, h => h
  | .err, _, _, h => h
  | .mp kk t, _, _, h => by
    rcases h with h | ⟨b, es, clock, h1, h2, h3, h4, h5⟩
    · exact .inl h
    · refine .inr ⟨b, es, clock, h1, (k b h2).1, (k b h2).2.trans h3, h4, fun i x hi => ?_⟩
      obtain ⟨e, g1, g2, g3, g4⟩ := h5 i x hi
      exact ⟨e, g1, g2, g3, g4.mono k⟩

theorem nth_some {t : Ty} {xs : List t.D} {i : Nat} (h : i < xs.length) : xs[i]? = some (nth t xs i) := by
  simp [nth, List.getD, h]

end Go.Sx
