/-
  Sx, part B: abstract values and states, and when a frame and a world of the model are as an abstract state says.
-/
import Derived.Test.YtpnmfoojmodnlaaSxAA
namespace Go.Sx
open Go.RowKit

/-- What is known of one value that takes part in a slot, a struct or a box. -/
inductive PV where
  | any
  | d (t : Ty) (x : t.D)
  | lit (b : Bool)
  | con (v : Value)
  | row (k : Nat)
  | ptr (k off : Nat)
  | pel (k off n sz i j : Nat)
  | rel (k sz i j : Nat)
  | rea (k sz i j n sz' i' j' : Nat)
  | pea (k off n sz i j n' sz' i' j' : Nat)
  | dpl (t : Ty) (x : t.D)
  | clo (k : Nat)
  | sub (k k' sz a b : Nat)
  | bsl (k off n sz : Nat)
  | itr (k r : Nat)
  | opt (p : Nat) (a : Int) (off : Nat)
  | oel (p : Nat) (a : Int) (off n sz i j : Nat)
  | orp (k n : Nat) (h : Option (Nat × Nat))

/-- A slot: one value, an aggregate of parts, or a tuple. -/
inductive SV where
  | one (p : PV)
  | agg (ps : List PV)
  | tup (vs : List (Bool × List PV))
  | cnd (b : Bool) (p : PV)

/-- What is known of a name: a box of parts, a slice of our own, a closure. -/
inductive HE where
  | box (ps : List PV)
  | row (t : Ty) (xs : List t.D)
  | clo (f : FuncId) (caps : List PV)
  | map (kk : IntKind) (t : Ty) (xs : List (Int × t.D))
  | pmap (kk : IntKind) (es : List (Int × PV))
  | mapit (kk : IntKind) (t : Ty) (xs : List (Int × t.D)) (r : Nat) (rem : List (Int × t.D)) (cur : Option (Int × t.D))
  | pool (t : Ty) (m : List (Int × t.D))
  | orw (t : Ty) (xss : List (List t.D))

structure St where
  fr : List SV
  hp : Nat → Option HE
  us : Nat → Bool
  nx : Nat
  bk : List SV

/-- What the abstract names and the memory are. -/
structure Cx where
  ρ : Nat → Value
  us : Nat → Bool
  S : Nat → Prop
  w : World

def blkOf : Value → Option Nat
  | .pointer (some a) => some a.block
  | .slice (some a) _ _ => some a.block
  | .map (some b) => some b
  | _ => none
/-- The blocks that a name owns. -/
def Bk : HE → Value → Nat → Prop
  | .pool _ m, _, b => ∃ e ∈ m, e.1 = (b : Int)
  | .mapit _ _ _ r _ _, v, b => blkOf v = some b ∨ b = r
  | .orw _ _, v, b => ∃ vs, v = .tuple vs ∧ ∃ u ∈ vs.toList, blkOf u = some b
  | .box _, v, b => blkOf v = some b
  | .row _ _, v, b => blkOf v = some b
  | .clo _ _, v, b => blkOf v = some b
  | .map _ _ _, v, b => blkOf v = some b
  | .pmap _ _, v, b => blkOf v = some b

/-- The cells l are as p says. -/
def PVc (c : Cx) : PV → List Value → Prop
  | .any, l => ∃ v, l = [v] ∧ v.oneCell' = true
  | .d t x, l => Rd c.S c.w t l x
  | .lit b, l => l = [.bool b]
  | .con v, l => l = [v] ∧ v.oneCell' = true
  | .row k, l => c.us k = true ∧ l = [c.ρ k] ∧ (c.ρ k).oneCell' = true
  | .ptr k off, l => c.us k = true ∧ ∃ b, c.ρ k = .pointer (some ⟨b, 0, none⟩) ∧ l = [.pointer (some ⟨b, off, none⟩)]
  | .pel k off n sz i j, l => c.us k = true ∧ i < n ∧ ∃ b, c.ρ k = .pointer (some ⟨b, 0, none⟩) ∧ l = [.pointer (some ⟨b, off + (i * sz + j), none⟩)]
  | .rel k sz i j, l => c.us k = true ∧ ∃ b o n cp, c.ρ k = .slice (some ⟨b, o, none⟩) n cp ∧ i < n ∧ l = [.pointer (some ⟨b, o + (i * sz + j), none⟩)]
  | .rea k sz i j n' sz' i' j', l => c.us k = true ∧ i' < n' ∧ ∃ b o n cp, c.ρ k = .slice (some ⟨b, o, none⟩) n cp ∧ i < n ∧ l = [.pointer (some ⟨b, o + (i * sz + (j + (i' * sz' + j'))), none⟩)]
  | .pea k off n sz i j n' sz' i' j', l => c.us k = true ∧ (i < n ∧ i' < n') ∧ ∃ b, c.ρ k = .pointer (some ⟨b, 0, none⟩) ∧ l = [.pointer (some ⟨b, off + (i * sz + (j + (i' * sz' + j'))), none⟩)]
  | .dpl t x, l => ∃ b o cs, l = [.pointer (some ⟨b, o, none⟩)] ∧ c.S b ∧ Rd c.S c.w t cs x ∧ ∀ (j : Nat) v, cs[j]? = some v → c.w.cell? ⟨b, o + j, none⟩ = some v
  | .clo k, l => c.us k = true ∧ l = [c.ρ k] ∧ (c.ρ k).oneCell' = true
  | .sub k k' sz a b, l => c.us k = true ∧ c.us k' = true ∧ l = [c.ρ k'] ∧ ∃ A n cp, c.ρ k = .slice A n cp ∧ ((n = 0 ∨ ∃ bl o, A = some ⟨bl, o, none⟩) ∧ n ≤ cp) ∧ (a ≤ b ∧ b ≤ n) ∧ c.ρ k' = .slice (if cp = a then A else A.map (·.add (a * sz))) (b - a) (cp - a)
  | .bsl k off n _, l => c.us k = true ∧ ∃ b, c.ρ k = .pointer (some ⟨b, 0, none⟩) ∧ l = [.slice (some ⟨b, off, none⟩) n n]
  | .itr _ r, l => l = [.pointer (some ⟨r, 0, none⟩)]
  | .opt _ a off, l => 0 ≤ a ∧ l = [.pointer (some ⟨a.toNat, off, none⟩)]
  | .oel _ a off n sz i j, l => (0 ≤ a ∧ i < n) ∧ l = [.pointer (some ⟨a.toNat, off + (i * sz + j), none⟩)]
  | .orp k n h, l => c.us k = true ∧ ∃ vs : List Value, c.ρ k = .tuple vs.toArray ∧ (vs.length = n ∧ ∀ v ∈ vs, v.oneCell' = true) ∧ (match h with
      | none => l = vs
      | some (i, k') => (c.us k' = true ∧ i < n) ∧ (c.ρ k').oneCell' = true ∧ l = vs.set i (c.ρ k'))

def PV.size : PV → Nat
  | .d t _ => t.size
  | .orp _ n _ => n
  | _ => 1
def PV.agg : PV → Bool
  | .d t _ => t.agg
  | .orp _ _ _ => true
  | _ => false

theorem PVc.len {c : Cx} {p : PV} {l : List Value} (h : PVc c p l) : l.length = p.size := by
  cases p with
  | any => obtain ⟨v, h, _⟩ := h; rw [h]; rfl
  | d t x => exact Rd.len h
  | lit b => rw [show l = _ from h]; rfl
  | con v => rw [h.1]; rfl
  | row k => rw [h.2.1]; rfl
  | ptr k off => obtain ⟨_, b, _, h⟩ := h; rw [h]; rfl
  | pel k off n sz i j => obtain ⟨_, _, b, _, h⟩ := h; rw [h]; rfl
  | rel k sz i j => obtain ⟨_, b, o, n, cp, _, _, h⟩ := h; rw [h]; rfl
  | rea k sz i j n' sz' i' j' => obtain ⟨_, _, b, o, n, cp, _, _, h⟩ := h; rw [h]; rfl
  | pea k off n sz i j n' sz' i' j' => obtain ⟨_, _, b, _, h⟩ := h; rw [h]; rfl
  | dpl t x => obtain ⟨b, o, cs, h, _⟩ := h; rw [h]; rfl
  | clo k => rw [h.2.1]; rfl
  | sub k k' sz a b => rw [h.2.2.1]; rfl
  | bsl k off n sz => obtain ⟨_, b, _, h⟩ := h; rw [h]; rfl
  | itr k r => rw [show l = _ from h]; rfl
  | opt p a off => rw [h.2]; rfl
  | oel p a off n sz i j => rw [h.2]; rfl
  | orp k n g =>
    obtain ⟨_, vs, _, ⟨h1, _⟩, h2⟩ := h
    cases g with
    | none => rw [show l = vs from h2]; exact h1
    | some e => rw [h2.2.2, List.length_set]; exact h1

/-- The cells l are as the parts say, one behind the other. -/
def PsC (c : Cx) : List PV → List Value → Prop
  | [], l => l = []
  | p :: ps, l => ∃ a b, l = a ++ b ∧ PVc c p a ∧ PsC c ps b

def psSize : List PV → Nat
  | [] => 0
  | p :: ps => p.size + psSize ps

theorem PsC.len {c : Cx} : ∀ {ps : List PV} {l : List Value}, PsC c ps l → l.length = psSize ps
  | [], l, h => by rw [show l = [] from h]; rfl
  | p :: ps, l, h => by
    obtain ⟨a, b, e, h1, h2⟩ := h
    rw [e, List.length_append, h1.len, h2.len]; rfl

theorem PsC.append {c : Cx} : ∀ {ps qs : List PV} {l m : List Value}, PsC c ps l → PsC c qs m → PsC c (ps ++ qs) (l ++ m)
  | [], _, l, m, h, h' => by rw [show l = [] from h]; exact h'
  | p :: ps, qs, l, m, h, h' => by
    obtain ⟨a, b, e, h1, h2⟩ := h
    exact ⟨a, b ++ m, by rw [e, List.append_assoc], h1, h2.append h'⟩

theorem PsC.single {c : Cx} {p : PV} {l : List Value} (h : PVc c p l) : PsC c [p] l := ⟨l, [], by simp, h, rfl⟩

/-- c' knows at least what c knows. -/
structure Cx.le (c c' : Cx) : Prop where
  us : ∀ k, c.us k = true → c'.us k = true
  ρ : ∀ k, c.us k = true → c'.ρ k = c.ρ k
  keep : Keeps c.S c.w c'.S c'.w
theorem Cx.le.refl (c : Cx) : c.le c := ⟨fun _ h => h, fun _ _ => rfl, Keeps.refl _ _⟩
theorem Cx.le.trans {a b c : Cx} (h : a.le b) (k : b.le c) : a.le c :=
  ⟨fun x hx => k.us x (h.us x hx), fun x hx => (k.ρ x (h.us x hx)).trans (h.ρ x hx), h.keep.trans k.keep⟩

theorem Rd.one {S : Nat → Prop} {w : World} : ∀ {t : Ty} {cs : List Value} {x : t.D}, Rd S w t cs x → ∀ v ∈ cs, v.oneCell' = true
  | .int _, _, _, h => by rw [h.1]; simp [Value.oneCell']
  | .bool, _, _, h => by rw [show _ = _ from h]; simp [Value.oneCell']
  | .str, _, _, h => by rw [h.1]; simp [Value.oneCell']
  | .ref _, _, _, h => by rcases h with ⟨_, h⟩ | ⟨_, h⟩ <;> (rw [h]; simp [Value.oneCell'])
  | .err, _, _, h => by rcases h with ⟨_, h⟩ | ⟨_, _, _, h⟩ <;> (rw [h]; simp [Value.oneCell'])
  | .mp _ _, _, _, h => by rcases h with ⟨_, h⟩ | ⟨_, _, _, h, _⟩ <;> (rw [h]; simp [Value.oneCell'])
  | .sl _, _, _, h => by obtain ⟨A, c, h, _⟩ := h; rw [h]; simp [Value.oneCell']
  | .pair _ _, _, _, h => by
    obtain ⟨l, m, h, h1, h2⟩ := h
    rw [h]
    intro v hv
    rcases List.mem_append.1 hv with hv | hv
    · exact Rd.one h1 v hv
    · exact Rd.one h2 v hv
  | .arr n t, cs, xs, h => by
    intro v hv
    obtain ⟨hl, hc, hr⟩ := h
    obtain ⟨i, hi, rfl⟩ := List.mem_iff_getElem.1 hv
    rcases Nat.eq_zero_or_pos t.size with h0 | hp
    · rw [hc, h0] at hi; simp at hi
    · have hq : i / t.size < xs.length := by
        rw [hl, Nat.div_lt_iff_lt_mul hp]; rw [hc] at hi; exact hi
      have hm : i % t.size < t.size := Nat.mod_lt _ hp
      have hr' := hr (i / t.size) xs[i / t.size] (by simp [hq])
      refine Rd.one hr' _ ?_
      refine List.mem_iff_getElem?.2 ⟨i % t.size, ?_⟩
      rw [List.getElem?_take, if_pos hm, List.getElem?_drop, Nat.div_add_mod' i t.size]
      simp [hi]

theorem PVc.one {c : Cx} {p : PV} {l : List Value} (h : PVc c p l) : ∀ v ∈ l, v.oneCell' = true := by
  cases p with
  | any => obtain ⟨v, h, h'⟩ := h; rw [h]; simpa using h'
  | d t x => exact Rd.one h
  | lit b => rw [show l = _ from h]; simp [Value.oneCell']
  | con v => rw [h.1]; simpa using h.2
  | row k => rw [h.2.1]; simpa using h.2.2
  | ptr k off => obtain ⟨_, b, _, h⟩ := h; rw [h]; simp [Value.oneCell']
  | pel k off n sz i j => obtain ⟨_, _, b, _, h⟩ := h; rw [h]; simp [Value.oneCell']
  | rel k sz i j => obtain ⟨_, b, o, n, cp, _, _, h⟩ := h; rw [h]; simp [Value.oneCell']
  | rea k sz i j n' sz' i' j' => obtain ⟨_, _, b, o, n, cp, _, _, h⟩ := h; rw [h]; simp [Value.oneCell']
  | pea k off n sz i j n' sz' i' j' => obtain ⟨_, _, b, _, h⟩ := h; rw [h]; simp [Value.oneCell']
  | dpl t x => obtain ⟨b, o, cs, h, _⟩ := h; rw [h]; simp [Value.oneCell']
  | clo k => rw [h.2.1]; simpa using h.2.2
  | sub k k' sz a b => obtain ⟨_, _, h, A, n, cp, _, _, _, h2⟩ := h; rw [h, h2]; simp [Value.oneCell']
  | bsl k off n sz => obtain ⟨_, b, _, h⟩ := h; rw [h]; simp [Value.oneCell']
  | itr k r => rw [show l = _ from h]; simp [Value.oneCell']
  | opt p a off => rw [h.2]; simp [Value.oneCell']
  | oel p a off n sz i j => rw [h.2]; simp [Value.oneCell']
  | orp k n g =>
    obtain ⟨_, vs, _, ⟨_, h1⟩, h2⟩ := h
    cases g with
    | none => rw [show l = vs from h2]; exact h1
    | some e =>
      rw [h2.2.2]
      intro v hv
      rcases List.mem_or_eq_of_mem_set hv with hv | hv
      · exact h1 v hv
      · rw [hv]; exact h2.2.1

theorem PVc.mono {c c' : Cx} (h : c.le c') {p : PV} {l : List Value} (hp : PVc c p l) : PVc c' p l := by
  cases p with
  | any => exact hp
  | d t x => exact Rd.mono h.keep hp
  | lit b => exact hp
  | con v => exact hp
  | row k => exact ⟨h.us k hp.1, by rw [h.ρ k hp.1]; exact hp.2⟩
  | ptr k off => exact ⟨h.us k hp.1, by rw [h.ρ k hp.1]; exact hp.2⟩
  | pel k off n sz i j => exact ⟨h.us k hp.1, by rw [h.ρ k hp.1]; exact hp.2⟩
  | rel k sz i j => exact ⟨h.us k hp.1, by rw [h.ρ k hp.1]; exact hp.2⟩
  | rea k sz i j n' sz' i' j' => exact ⟨h.us k hp.1, by rw [h.ρ k hp.1]; exact hp.2⟩
  | pea k off n sz i j n' sz' i' j' => exact ⟨h.us k hp.1, by rw [h.ρ k hp.1]; exact hp.2⟩
  | dpl t x =>
    obtain ⟨b, o, cs, e, hS, hr, hc⟩ := hp
    exact ⟨b, o, cs, e, (h.keep b hS).1, Rd.mono h.keep hr, fun j v hv => (h.keep.cell hS).trans (hc j v hv)⟩
  | clo k => exact ⟨h.us k hp.1, by rw [h.ρ k hp.1]; exact hp.2⟩
  | sub k k' sz a b => exact ⟨h.us k hp.1, h.us k' hp.2.1, by rw [h.ρ k hp.1, h.ρ k' hp.2.1]; exact hp.2.2⟩
  | bsl k off n sz => exact ⟨h.us k hp.1, by rw [h.ρ k hp.1]; exact hp.2⟩
  | itr k r => exact hp
  | opt p a off => exact hp
  | oel p a off n sz i j => exact hp
  | orp k n g =>
    cases g with
    | none => exact ⟨h.us k hp.1, by rw [h.ρ k hp.1]; exact hp.2⟩
    | some e =>
      obtain ⟨h1, vs, h2, h3, ⟨h4, h7⟩, h5, h6⟩ := hp
      exact ⟨h.us k h1, vs, by rw [h.ρ k h1]; exact h2, h3, ⟨h.us _ h4, h7⟩, by rw [h.ρ _ h4]; exact h5, by rw [h.ρ _ h4]; exact h6⟩

theorem PsC.one {c : Cx} : ∀ {ps : List PV} {l : List Value}, PsC c ps l → ∀ v ∈ l, v.oneCell' = true
  | [], l, h => by rw [show l = [] from h]; simp
  | p :: ps, l, h => by
    obtain ⟨a, b, e, h1, h2⟩ := h
    rw [e]
    intro v hv
    rcases List.mem_append.1 hv with hv | hv
    · exact h1.one v hv
    · exact h2.one v hv

theorem PsC.mono {c c' : Cx} (h : c.le c') : ∀ {ps : List PV} {l : List Value}, PsC c ps l → PsC c' ps l
  | [], _, hp => hp
  | _ :: _, _, ⟨a, b, e, h1, h2⟩ => ⟨a, b, e, h1.mono h, h2.mono h⟩

/-- A slot's value is as the slot says. -/
def aggC (c : Cx) (agg : Bool) (ps : List PV) (v : Value) : Prop :=
  match agg with
  | true => ∃ cs, v = .agg cs ∧ PsC c ps cs.toList
  | false => PsC c ps [v]
def tupC (c : Cx) : List (Bool × List PV) → List Value → Prop
  | [], vs => vs = []
  | e :: es, vs => ∃ v r, vs = v :: r ∧ aggC c e.1 e.2 v ∧ tupC c es r
def SV1 (c : Cx) : PV → Value → Prop
  | .any, _ => True
  | p, v => aggC c p.agg [p] v
def SVc (c : Cx) : SV → Value → Prop
  | .one p, v => SV1 c p v
  | .cnd b p, v => (b = true → SV1 c p v) ∧ (b = false → v = undef)
  | .agg ps, v => aggC c true ps v
  | .tup es, v => ∃ vs, v = .tuple vs ∧ tupC c es vs.toList

theorem aggC.mono {c c' : Cx} (h : c.le c') {g : Bool} {ps : List PV} {v : Value} (hp : aggC c g ps v) : aggC c' g ps v := by
  cases g
  · exact PsC.mono h hp
  · obtain ⟨cs, e, hp⟩ := hp; exact ⟨cs, e, hp.mono h⟩
theorem tupC.mono {c c' : Cx} (h : c.le c') : ∀ {es : List (Bool × List PV)} {vs : List Value}, tupC c es vs → tupC c' es vs
  | [], _, hp => hp
  | _ :: _, _, ⟨v, r, e, h1, h2⟩ => ⟨v, r, e, h1.mono h, h2.mono h⟩
theorem SV1.mono {c c' : Cx} (h : c.le c') {p : PV} {v : Value} (hs : SV1 c p v) : SV1 c' p v := by
  cases p with
  | any => trivial
  | d t x => exact aggC.mono (g := t.agg) (ps := [.d t x]) h hs
  | lit b => exact aggC.mono (g := false) (ps := [.lit b]) h hs
  | con u => exact aggC.mono (g := false) (ps := [.con u]) h hs
  | row k => exact aggC.mono (g := false) (ps := [.row k]) h hs
  | ptr k o => exact aggC.mono (g := false) (ps := [.ptr k o]) h hs
  | pel k o n sz i j => exact aggC.mono (g := false) (ps := [.pel k o n sz i j]) h hs
  | rel k sz i j => exact aggC.mono (g := false) (ps := [.rel k sz i j]) h hs
  | pea k off n sz i j n' sz' i' j' => exact aggC.mono (g := false) (ps := [.pea k off n sz i j n' sz' i' j']) h hs
  | rea k sz i j n' sz' i' j' => exact aggC.mono (g := false) (ps := [.rea k sz i j n' sz' i' j']) h hs
  | dpl t x => exact aggC.mono (g := false) (ps := [.dpl t x]) h hs
  | clo k => exact aggC.mono (g := false) (ps := [.clo k]) h hs
  | sub k k' sz a b => exact aggC.mono (g := false) (ps := [.sub k k' sz a b]) h hs
  | bsl k off n sz => exact aggC.mono (g := false) (ps := [.bsl k off n sz]) h hs
  | itr k r => exact aggC.mono (g := false) (ps := [.itr k r]) h hs
  | opt p a off => exact aggC.mono (g := false) (ps := [.opt p a off]) h hs
  | oel p a off n sz i j => exact aggC.mono (g := false) (ps := [.oel p a off n sz i j]) h hs
  | orp k n g => exact aggC.mono (g := true) (ps := [.orp k n g]) h hs
theorem SVc.mono {c c' : Cx} (h : c.le c') {s : SV} {v : Value} (hs : SVc c s v) : SVc c' s v := by
  cases s with
  | one p => exact SV1.mono h hs
  | cnd b p => exact ⟨fun e => SV1.mono h (hs.1 e), hs.2⟩
  | agg ps => exact aggC.mono (g := true) (ps := ps) h hs
  | tup es => obtain ⟨vs, e, hs⟩ := hs; exact ⟨vs, e, hs.mono h⟩

/-- A map's entries are as the data says: in their order. -/
def MapC (c : Cx) (kk : IntKind) (t : Ty) : List MapEntry → List (Int × t.D) → Prop
  | [], [] => True
  | e :: es, x :: xs => (e.key = .int kk x.1 ∧ IR kk x.1 ∧ Rd c.S c.w t [e.val] x.2) ∧ MapC c kk t es xs
  | _, _ => False
def PMapC (c : Cx) (kk : IntKind) : List MapEntry → List (Int × PV) → Prop
  | [], [] => True
  | e :: es, x :: xs => (e.key = .int kk x.1 ∧ x.2.agg = false ∧ PVc c x.2 [e.val]) ∧ PMapC c kk es xs
  | _, _ => False
theorem MapC.mono {c c' : Cx} (h : c.le c') {kk : IntKind} {t : Ty} : ∀ {es : List MapEntry} {xs : List (Int × t.D)}, MapC c kk t es xs → MapC c' kk t es xs
  | [], [], _ => trivial
  | _ :: _, _ :: _, ⟨⟨h1, h2, h3⟩, h4⟩ => ⟨⟨h1, h2, Rd.mono h.keep h3⟩, h4.mono h⟩
  | [], _ :: _, h' => h'.elim
  | _ :: _, [], h' => h'.elim
theorem PMapC.mono {c c' : Cx} (h : c.le c') {kk : IntKind} : ∀ {es : List MapEntry} {xs : List (Int × PV)}, PMapC c kk es xs → PMapC c' kk es xs
  | [], [], _ => trivial
  | _ :: _, _ :: _, ⟨⟨h1, h2, h3⟩, h4⟩ => ⟨⟨h1, h2, PVc.mono h h3⟩, h4.mono h⟩
  | [], _ :: _, h' => h'.elim
  | _ :: _, [], h' => h'.elim
/-- The entries came one behind the other, ahead of the clock. -/
def BornOk (es : List MapEntry) (clock : Nat) : Prop := (∀ e ∈ es, e.born < clock) ∧ es.Pairwise fun a b => a.born ≠ b.born
/-- The entries that an iteration has left. -/
def leftOf (es : List MapEntry) (seen : Array Nat) : List MapEntry := es.filter fun e => !seen.contains e.born
/-- A slice that lies in a block of its own. -/
def RowC (c : Cx) (t : Ty) (v : Value) (xs : List t.D) : Prop :=
  (v = .slice none 0 0 ∧ xs = []) ∨
      ∃ b o cp cur e, v = .slice (some ⟨b, o, none⟩) xs.length cp ∧ c.w.heap[b]? = some (.cells cur e (0, 0)) ∧ xs.length ≤ cp ∧ cp ≤ maxLen ∧
        o + cp * t.size ≤ cur.size ∧ ∀ (i : Nat) x, xs[i]? = some x → Rd c.S c.w t ((cur.toList.drop (o + i * t.size)).take t.size) x
/-- A name is as the heap says. -/
def HEc (c : Cx) (k : Nat) : HE → Prop
  | .box ps => ∃ b e cs, c.ρ k = .pointer (some ⟨b, 0, none⟩) ∧ c.w.heap[b]? = some (.cells cs e (0, 0)) ∧ PsC c ps cs.toList
  | .row t xs => (c.ρ k = .slice none 0 0 ∧ xs = []) ∨
      ∃ b o cp cur e, c.ρ k = .slice (some ⟨b, o, none⟩) xs.length cp ∧ c.w.heap[b]? = some (.cells cur e (0, 0)) ∧ xs.length ≤ cp ∧ cp ≤ maxLen ∧
        o + cp * t.size ≤ cur.size ∧ ∀ (i : Nat) x, xs[i]? = some x → Rd c.S c.w t ((cur.toList.drop (o + i * t.size)).take t.size) x
  | .clo f caps => ∃ vs, c.ρ k = .func (.func f) #[] vs ∧ PsC c caps vs.toList ∧ caps.length = vs.size ∧ ∀ p ∈ caps, p.agg = false
  | .map kk t xs => ∃ b es clock, c.ρ k = .map (some b) ∧ c.w.heap[b]? = some (.map es clock) ∧ MapC c kk t es.toList xs ∧ BornOk es.toList clock
  | .pmap kk xs => ∃ b es clock, c.ρ k = .map (some b) ∧ c.w.heap[b]? = some (.map es clock) ∧ PMapC c kk es.toList xs
  | .mapit kk t xs r rem cur => ∃ b es clock seen, c.ρ k = .map (some b) ∧ (c.w.heap[b]? = some (.map es clock) ∧ c.w.heap[r]? = some (.mapIter (some b) clock seen clock)) ∧ MapC c kk t es.toList xs ∧
      BornOk es.toList clock ∧ MapC c kk t (leftOf es.toList seen) rem ∧ ∀ x, cur = some x → ∃ e ∈ es.toList, (∃ seen0 : Array Nat, seen = seen0.push e.born) ∧ MapC c kk t [e] [x]
  | .pool t m => (m.map (·.1)).Nodup ∧ ∀ e ∈ m, 0 ≤ e.1 ∧ ∃ ty cs, c.w.heap[e.1.toNat]? = some (.cells cs ty (0, 0)) ∧ Rd c.S c.w t cs.toList e.2
  | .orw t xss => ∃ vs : List Value, c.ρ k = .tuple vs.toArray ∧ vs.length = xss.length ∧ (∀ (i : Nat) v xs, vs[i]? = some v → xss[i]? = some xs → RowC c t v xs) ∧
      vs.Pairwise fun v v' => ∀ b, blkOf v = some b → blkOf v' ≠ some b

/-- What is known of a name stays known where its own block stays as it is. -/
theorem HEc.mono {c c' : Cx} (h : c.le c') {k : Nat} {he : HE} (hk : c.us k = true)
    (hb : ∀ b, Bk he (c.ρ k) b → c'.w.heap[b]? = c.w.heap[b]?) (hp : HEc c k he) : HEc c' k he := by
  cases he with
  | box ps =>
    obtain ⟨b, e, cs, h1, h2, h3⟩ := hp
    exact ⟨b, e, cs, (h.ρ k hk).trans h1, (hb b (by rw [h1]; rfl)).trans h2, h3.mono h⟩
  | row t xs =>
    rcases hp with ⟨h1, h2⟩ | ⟨b, o, cp, cur, e, h1, h2, h3, h4, h5, h6⟩
    · exact .inl ⟨(h.ρ k hk).trans h1, h2⟩
    · exact .inr ⟨b, o, cp, cur, e, (h.ρ k hk).trans h1, (hb b (by rw [h1]; rfl)).trans h2, h3, h4, h5, fun i x hi => Rd.mono h.keep (h6 i x hi)⟩
  | clo f caps =>
    obtain ⟨vs, h1, h2, h3⟩ := hp
    exact ⟨vs, (h.ρ k hk).trans h1, h2.mono h, h3⟩
  | map kk t xs =>
    obtain ⟨b, es, cl, h1, h2, h3, h4⟩ := hp
    exact ⟨b, es, cl, (h.ρ k hk).trans h1, (hb b (by rw [h1]; rfl)).trans h2, h3.mono h, h4⟩
  | pmap kk xs =>
    obtain ⟨b, es, cl, h1, h2, h3⟩ := hp
    exact ⟨b, es, cl, (h.ρ k hk).trans h1, (hb b (by rw [h1]; rfl)).trans h2, h3.mono h⟩
  | mapit kk t xs r rem cur =>
    obtain ⟨b, es, cl, seen, h1, ⟨h2, h2'⟩, h3, h4, h5, h6⟩ := hp
    exact ⟨b, es, cl, seen, (h.ρ k hk).trans h1, ⟨(hb b (.inl (by rw [h1]; rfl))).trans h2, (hb r (.inr rfl)).trans h2'⟩, h3.mono h, h4, h5.mono h, fun x hx => by obtain ⟨e, g1, g2, g3⟩ := h6 x hx; exact ⟨e, g1, g2, g3.mono h⟩⟩
  | pool t m =>
    refine ⟨hp.1, fun e he => ?_⟩
    obtain ⟨h1, ty, cs, h2, h3⟩ := hp.2 e he
    exact ⟨h1, ty, cs, (hb _ ⟨e, he, (Int.toNat_of_nonneg h1).symm⟩).trans h2, Rd.mono h.keep h3⟩
  | orw t xss =>
    obtain ⟨vs, h1, h2, h3, h4⟩ := hp
    refine ⟨vs, (h.ρ k hk).trans h1, h2, fun i v xs hv hx => ?_, h4⟩
    rcases h3 i v xs hv hx with ⟨g1, g2⟩ | ⟨b, o, cp, cur, e, g1, g2, g3, g4, g5, g6⟩
    · exact .inl ⟨g1, g2⟩
    · exact .inr ⟨b, o, cp, cur, e, g1, (hb b ⟨_, h1, v, List.mem_iff_getElem?.2 ⟨i, hv⟩, by rw [g1]; rfl⟩).trans g2, g3, g4, g5, fun i x hi => Rd.mono h.keep (g6 i x hi)⟩

/-- The frame's slots. -/
def lget : List SV → Nat → SV
  | [], _ => .one .any
  | x :: _, 0 => x
  | _ :: xs, n + 1 => lget xs n
def lset : List SV → Nat → SV → List SV
  | [], _, _ => []
  | _ :: xs, 0, v => v :: xs
  | x :: xs, n + 1, v => x :: lset xs n v
theorem lset_length : ∀ (l : List SV) (n : Nat) (v : SV), (lset l n v).length = l.length
  | [], _, _ => rfl
  | _ :: _, 0, _ => rfl
  | _ :: xs, n + 1, v => by simp [lset, lset_length xs n v]
theorem lget_lset_ne : ∀ (l : List SV) (n m : Nat) (v : SV), n ≠ m → lget (lset l n v) m = lget l m
  | [], _, _, _, _ => rfl
  | _ :: _, 0, 0, _, h => absurd rfl h
  | _ :: _, 0, _ + 1, _, _ => rfl
  | _ :: _, _ + 1, 0, _, _ => rfl
  | _ :: xs, n + 1, m + 1, v, h => lget_lset_ne xs n m v (fun e => h (by rw [e]))
theorem lget_lset_eq : ∀ (l : List SV) (n : Nat) (v : SV), lget (lset l n v) n = if n < l.length then v else .one .any
  | [], _, _ => by simp [lset, lget]
  | _ :: _, 0, _ => by simp [lset, lget]
  | _ :: xs, n + 1, v => by
    have := lget_lset_eq xs n v
    simp [lset, lget, this]
theorem lset_comm : ∀ (l : List SV) (n m : Nat) (v u : SV), n ≠ m → lset (lset l n v) m u = lset (lset l m u) n v
  | [], _, _, _, _, _ => rfl
  | _ :: _, 0, 0, _, _, h => absurd rfl h
  | _ :: _, 0, _ + 1, _, _, _ => rfl
  | _ :: _, _ + 1, 0, _, _, _ => rfl
  | _ :: xs, n + 1, m + 1, v, u, h => by simp [lset, lset_comm xs n m v u (fun e => h (by rw [e]))]

def St.put (s : St) : Option Nat → SV → St
  | none, _ => s
  | some d, v => { s with fr := lset s.fr d v }

/-- The tables of bytes that package-level variables of this seat hold (their blocks, and what they hold). -/
def seatGl : List (Nat × List Nat) := []
def GlOk (w : World) : Prop := ∀ q ∈ seatGl, q.1 < w.heap.size ∧ ∀ j, j < q.2.length → w.cell? ⟨q.1, j, none⟩ = some (.int .u8 (q.2.getD j 0))
theorem GlOk.below {w w' : World} (h : GlOk w) (hb : Below w.heap.size w w') : GlOk w' := fun q hq => by
  obtain ⟨h1, h2⟩ := h q hq
  exact ⟨Nat.lt_of_lt_of_le h1 hb.size, fun j hj => (hb.cell (p := ⟨q.1, j, none⟩) h1).trans (h2 j hj)⟩
/-- The world in which the call began, and where its arguments' data lie. -/
structure Base where
  w : World
  old : Nat → Prop
  oldlt : ∀ b, old b → b < w.heap.size
  S : Nat → Prop
  all : ∀ b, ¬ old b → S b
  bv : List Value
  gl : GlOk w
  glold : ∀ q ∈ seatGl, old q.1
/-- What is old stays as it is; the streams are as they were; no block has gone. -/
structure BelowS (old : Nat → Prop) (w w' : World) : Prop where
  os : w'.os = w.os
  tape : w'.tape = w.tape
  output : w'.output = w.output
  size : w.heap.size ≤ w'.heap.size
  block : ∀ k, old k → w'.heap[k]? = w.heap[k]?
theorem BelowS.refl (old : Nat → Prop) (w : World) : BelowS old w w := ⟨rfl, rfl, rfl, Nat.le_refl _, fun _ _ => rfl⟩
theorem BelowS.trans {old : Nat → Prop} {a b c : World} (h : BelowS old a b) (k : BelowS old b c) : BelowS old a c :=
  ⟨k.os.trans h.os, k.tape.trans h.tape, k.output.trans h.output, Nat.le_trans h.size k.size, fun i hi => (k.block i hi).trans (h.block i hi)⟩
theorem BelowS.ofB {old : Nat → Prop} {B : Nat} {w w' : World} (h : Below B w w') (hB : ∀ b, old b → b < B) : BelowS old w w' :=
  ⟨h.os, h.tape, h.output, h.size, fun k hk => h.block k (hB k hk)⟩
theorem BelowS.toB {old : Nat → Prop} {B : Nat} {w w' : World} (h : BelowS old w w') (hB : ∀ b, b < B → old b) : Below B w w' :=
  ⟨h.os, h.tape, h.output, h.size, fun k hk => h.block k (hB k hk)⟩
theorem BelowS.cell {old : Nat → Prop} {w w' : World} (h : BelowS old w w') {p : Addr} (hp : old p.block) : w'.cell? p = w.cell? p := World.cell?_of_block (w := w) (h.block p.block hp)
def Free (w0 : Base) (ρ : Nat → Value) (hp : Nat → Option HE) (w : World) (b : Nat) : Prop :=
  b < w.heap.size ∧ (∀ k he, hp k = some he → ¬ Bk he (ρ k) b) ∧ w0.S b

def cx (w0 : Base) (ρ : Nat → Value) (s : St) (w : World) : Cx := ⟨ρ, s.us, Free w0 ρ s.hp w, w⟩

/-- The frame a and the world w are as the state s says; w0 is the world in which the call began. -/
structure Ok (w0 : Base) (ρ : Nat → Value) (s : St) (a : Act) (w : World) : Prop where
  defers : a.defers = []
  below : BelowS w0.old w0.w w
  len : s.fr.length = a.tmps.size
  frame : ∀ i, SVc (cx w0 ρ s w) (lget s.fr i) (a.tmps.getD i undef)
  back : ∀ i, SVc (cx w0 ρ s w) (lget s.bk i) (w0.bv.getD i undef)
  heap : ∀ k he, s.hp k = some he → HEc (cx w0 ρ s w) k he
  used : ∀ k he, s.hp k = some he → s.us k = true
  fresh : ∀ k he b, s.hp k = some he → Bk he (ρ k) b → ¬ w0.old b ∧ b < w.heap.size
  apart : ∀ k k' he he' b, k ≠ k' → s.hp k = some he → s.hp k' = some he' → Bk he (ρ k) b → ¬ Bk he' (ρ k') b

theorem Ok.gl {w0 : Base} {ρ : Nat → Value} {s : St} {a : Act} {w : World} (h : Ok w0 ρ s a w) : GlOk w := fun q hq =>
  ⟨Nat.lt_of_lt_of_le (w0.gl q hq).1 h.below.size, fun j hj => (h.below.cell (p := ⟨q.1, j, none⟩) (w0.glold q hq)).trans ((w0.gl q hq).2 j hj)⟩
theorem Ok.base {w0 : Base} {ρ : Nat → Value} {s : St} {a : Act} {w : World} (h : Ok w0 ρ s a w) : w0.w.heap.size ≤ w.heap.size := h.below.size
theorem Ok.oldlt {w0 : Base} {ρ : Nat → Value} {s : St} {a : Act} {w : World} (h : Ok w0 ρ s a w) {b : Nat} (hb : w0.old b) : b < w.heap.size := Nat.lt_of_lt_of_le (w0.oldlt b hb) h.base
theorem Ok.newold {w0 : Base} {ρ : Nat → Value} {s : St} {a : Act} {w : World} (h : Ok w0 ρ s a w) {b : Nat} (hb : w.heap.size ≤ b) : ¬ w0.old b := fun e => by have := h.oldlt e; omega
theorem Ok.belowS {w0 : Base} {ρ : Nat → Value} {s : St} {a : Act} {w w' : World} (h : Ok w0 ρ s a w) (m : Below w.heap.size w w') : BelowS w0.old w w' := .ofB m fun _ hb => h.oldlt hb

theorem SVc_any {c : Cx} (v : Value) : SVc c (.one .any) v := trivial

/-- Putting a value into a slot. -/
theorem Ok.put {w0 : Base} {ρ : Nat → Value} {s : St} {a : Act} {w : World} (h : Ok w0 ρ s a w) (d : Option Nat) {v : SV} {u : Value}
    (hv : SVc (cx w0 ρ s w) v u) : Ok w0 ρ (s.put d v) (a.put d u) w := by
  cases d with
  | none => exact h
  | some d =>
    refine { h with len := ?_, frame := ?_ }
    · simp [St.put, Act.put, lset_length, h.len]
    · intro i
      show SVc (cx w0 ρ s w) (lget (lset s.fr d v) i) ((a.tmps.setIfInBounds d u).getD i undef)
      by_cases e : d = i
      · subst e
        rw [lget_lset_eq]
        by_cases hd : d < s.fr.length
        · rw [if_pos hd]
          have hd' : d < a.tmps.size := by rw [← h.len]; exact hd
          simpa [Array.getD, hd'] using hv
        · rw [if_neg hd]; trivial
      · rw [lget_lset_ne _ _ _ _ e]
        have := h.frame i
        have e2 : (a.tmps.setIfInBounds d u).getD i undef = a.tmps.getD i undef := by
          simp [Array.getElem?_setIfInBounds_ne e]
        rw [e2]; exact this

/-- The world has moved on: what is known of the frame stays known, and the heap is given anew. -/
theorem Ok.move {w0 : Base} {ρ ρ' : Nat → Value} {s s' : St} {a : Act} {w w' : World} (h : Ok w0 ρ s a w) (hfr : s'.fr = s.fr) (hbk : s'.bk = s.bk)
    (hle : (cx w0 ρ s w).le (cx w0 ρ' s' w')) (hb : BelowS w0.old w w')
    (heap : ∀ k he, s'.hp k = some he → HEc (cx w0 ρ' s' w') k he)
    (used : ∀ k he, s'.hp k = some he → s'.us k = true)
    (fresh : ∀ k he b, s'.hp k = some he → Bk he (ρ' k) b → ¬ w0.old b ∧ b < w'.heap.size)
    (apart : ∀ k k' he he' b, k ≠ k' → s'.hp k = some he → s'.hp k' = some he' → Bk he (ρ' k) b → ¬ Bk he' (ρ' k') b) :
    Ok w0 ρ' s' a w' :=
  { defers := h.defers, below := h.below.trans hb, len := by rw [hfr]; exact h.len, frame := fun i => by rw [hfr]; exact (h.frame i).mono hle, back := fun i => by rw [hbk]; exact (h.back i).mono hle,
    heap, used, fresh, apart }
end Go.Sx
