/-
  Sx, part R: the code, calls and contracts.
-/
import Derived.Test.YtpnmfoojmodnlaaSxQ
import Derived.Test.YtpnmfoojmodnlaaSxU
namespace Go.Sx
open Go.RowKit

/-- What holds behind a piece of code. -/
def Post (w0 : Base) (Q : AEx → St → Prop) : Exit → Act → World → Prop
  | .normal, a, w => ∃ ρ s, Ok w0 ρ s a w ∧ Q .normal s
  | .exit id, a, w => ∃ ρ s, Ok w0 ρ s a w ∧ Q (.exit id) s
  | .ret, a, w => ∃ ρ s, Ok w0 ρ s a w ∧ Q .ret s
  | _, _, _ => False

section
variable {P : Program} {X : Fx} {callK : Nat → Nat → List SV → St → (SV → St → Prop) → Prop} {f : Nat} {w0 : Base}

theorem region_text {m : Bool} {sk : Nat → Bool} {id : Nat} {os : Array Oper} {s : St} {Q : AEx → St → Prop} {ρ : Nat → Value} {a : Act} {w : World} (hX : FxOk P X) (hcall : CallOk P callK) (hK : CtrBy X callK)
    (h : ops X callK f os.toList s.nx 0 os.toList { s with nx := s.nx + os.toList.length } (fun s => Q .normal (bif m then rootAll sk s else s))) (hok : Ok w0 ρ s a w) : (Code.region id os false).wp P (Post w0 Q) a w := by
  refine wp_region_list ?_
  have hok' : Ok w0 ρ { s with nx := s.nx + os.toList.length } a w := { hok with }
  have := ops_sound (w0 := w0) (Q := Post w0 Q) hX hcall hK (fun ρ' s' a' w' ho hq => by
    cases m with
    | true => exact ⟨ρ', _, ho.rootAll, hq⟩
    | false => exact ⟨ρ', s', ho, hq⟩) os.toList 0 _ ρ a w h hok'
  simpa using this

theorem into_ex {an : Ann} {s0 s : St} {R : an.G → Prop} {ρ : Nat → Value} {a : Act} {w : World} (hok : Ok w0 ρ s a w) (h : into an s0 s R) : ∃ g, (an.ok s0 g ∧ an.lens g) ∧ R g ∧ le s (an.inv s0 g) (Inv.st s0 (an.inv s0 g)) := by
  unfold into at h
  split at h
  · rename_i g hg
    exact ⟨g, ⟨h.1.1, an.told w0 ρ s0 s a w g hok hg⟩, h.1.2, h.2⟩
  · obtain ⟨g, ⟨h1, h2⟩, h3⟩ := h
    exact ⟨g, h1, h2, h3⟩
theorem intoAny_ex {s0 s : St} {ρ : Nat → Value} {a : Act} {w : World} {k : St → Prop} (hok : Ok w0 ρ s a w) : ∀ {ans : List Ann}, intoAny s0 s ans → fromAll s0 k ans →
    ∃ (an : Ann) (g : an.G), an.ok s0 g ∧ le s (an.inv s0 g) (Inv.st s0 (an.inv s0 g)) ∧ k (Inv.st s0 (an.inv s0 g))
  | [], h, _ => h.elim
  | [an], h, hf => by
    obtain ⟨g, ⟨hg, hlg⟩, _, hle⟩ := into_ex hok h
    exact ⟨an, g, hg, hle, hf g hg hlg⟩
  | an :: an2 :: r, h, hf => by
    rcases h with h | h
    · obtain ⟨g, ⟨hg, hlg⟩, _, hle⟩ := into_ex hok h
      exact ⟨an, g, hg, hle, hf.1 g hg hlg⟩
    · exact intoAny_ex hok h hf.2
theorem code_sound (hX : FxOk P X) (hcall : CallOk P callK) (hK : CtrBy X callK) : ∀ (c : Code) (s : St) (Q : AEx → St → Prop), code X callK f c s Q → ∀ ρ a w, Ok w0 ρ s a w → c.wp P (Post w0 Q) a w
  | .skip, s, Q, h, ρ, a, w, hok => wp_skip ⟨ρ, s, hok, h⟩
  | .label _, s, Q, h, ρ, a, w, hok => wp_label ⟨ρ, s, hok, h⟩
  | .exit id, s, Q, h, ρ, a, w, hok => wp_exit ⟨ρ, s, hok, h⟩
  | .ret, s, Q, h, ρ, a, w, hok => wp_ret ⟨ρ, s, hok, h⟩
  | .region id os draw, s, Q, h, ρ, a, w, hok => by
    unfold code at h
    cases draw with
    | true =>
      simp only [cond_true] at h
      cases hmark : X.wr f (9000000 + id) with
      | true =>
        rw [hmark] at h
        simp only [cond_true] at h
        exact drawnB_sound (Q := Post w0 Q) hX hcall hK (fun ρ' s' a' w' ho hq => ⟨ρ', s', ho, hq⟩) h hok
      | false =>
      rw [hmark] at h
      simp only [cond_false] at h
      have hok' : Ok w0 ρ (bif X.wr f (2000000 + id) then frzAll s (rowNames s s.nx) else s) a w := by
        cases X.wr f (2000000 + id) with
        | true => exact Ok.frzAll _ hok
        | false => exact hok
      refine drawn_sound (Q := Post w0 Q) hX hcall hK (fun ρ' s' a' w' ho hq => ?_) h hok'
      cases hm : X.wr f (4000000 + id) with
      | true => rw [hm] at hq; exact ⟨ρ', _, ho.rootAll, hq⟩
      | false => rw [hm] at hq; exact ⟨ρ', s', ho, hq⟩
    | false =>
      simp only [cond_false] at h
      exact region_text hX hcall hK h hok
  | .seq x y, s, Q, h, ρ, a, w, hok => by
    unfold code at h
    split at h
    · refine wp_seq (wp_mono (code_sound hX hcall hK x s _ h ρ a w hok) fun e a' w' hq => ?_)
      cases e with
      | normal => obtain ⟨ρ', s', ho, hq⟩ := hq; exact code_sound hX hcall hK y s' Q hq ρ' a' w' ho
      | exit id => exact hq
      | ret => exact hq
      | goto l => exact hq
      | panic c => exact hq
      | outgrown => exact hq
    · rename_i an r _
      obtain ⟨h1, h2⟩ := h
      refine wp_seq (wp_mono (code_sound hX hcall hK x s _ h1 ρ a w hok) fun e a' w' hq => ?_)
      cases e with
      | normal =>
        obtain ⟨ρ', s', ho, hq⟩ := hq
        obtain ⟨an', g, hg, hle, hy⟩ := intoAny_ex ho hq h2
        obtain ⟨ρ2, ho2⟩ := le_ok ho hle
        exact code_sound hX hcall hK y _ Q hy ρ2 a' w' ho2
      | exit id => exact hq
      | ret => exact hq
      | goto l => exact hq
      | panic c => exact hq
      | outgrown => exact hq
  | .cond c x y, s, Q, h, ρ, a, w, hok => by
    unfold code at h
    have hv := hok.ev c
    split at h
    · rename_i b hb
      have eb := asBool_c hv (b := b) (by rw [hb]; rfl)
      cases b with
      | true => exact wp_cond_true eb (code_sound hX hcall hK x s Q h ρ a w hok)
      | false => exact wp_cond_false eb (code_sound hX hcall hK y s Q h ρ a w hok)
    · rename_i b hb
      have eb := asBool_c hv (b := b) (by rw [hb]; rfl)
      split at h
      · rename_i d
        cases b with
        | true => exact wp_cond_true eb (code_sound hX hcall hK x _ Q (h.1 rfl) ρ a w (hok.tell d (by rw [show a.tmps.getD d undef = _ from eb]; exact sv_lit true)))
        | false => exact wp_cond_false eb (code_sound hX hcall hK y _ Q (h.2 rfl) ρ a w (hok.tell d (by rw [show a.tmps.getD d undef = _ from eb]; exact sv_lit false)))
      · exact h.elim
    · exact h.elim
  | .block id c, s, Q, h, ρ, a, w, hok => by
    unfold code at h
    refine wp_block (wp_mono (code_sound hX hcall hK c s _ h ρ a w hok) fun e a' w' hq => ?_)
    cases e with
    | normal => exact hq
    | exit id' =>
      obtain ⟨ρ', s', ho, hq⟩ := hq
      simp only [Exit.inBlock]
      by_cases e : id' = id
      · subst e
        rw [if_pos rfl]
        simp only [show Nat.beq id' id' = true from by simp, cond_true] at hq
        exact ⟨ρ', s', ho, hq⟩
      · rw [if_neg e]
        simp only [beq_ne e, cond_false] at hq
        exact ⟨ρ', s', ho, hq⟩
    | ret => exact hq
    | goto l => exact hq
    | panic c => exact hq
    | outgrown => exact hq
  | .loop c, s, Q, h, ρ, a, w, hok => by
    unfold code at h
    split at h
    · exact h.elim
    · rename_i an _
      obtain ⟨h0, hround⟩ := h
      obtain ⟨g0, hg0, _, hle0⟩ := into_ex hok h0
      obtain ⟨ρ0, hok0⟩ := le_ok hok hle0
      refine wp_loop_ghost (fun n a w => ∃ g ρ, an.m s g = n ∧ (an.ok s g ∧ an.lens g) ∧ Ok w0 ρ (Inv.st s (an.inv s g)) a w) (an.m s g0) ⟨g0, ρ0, rfl, hg0, hok0⟩ ?_
      rintro n a1 w1 ⟨g, ρ1, rfl, hg, hok1⟩
      refine wp_mono (code_sound hX hcall hK c _ _ (hround g hg.1 hg.2) ρ1 a1 w1 hok1) fun e a' w' hq => ?_
      cases e with
      | normal =>
        obtain ⟨ρ', s', ho, hq⟩ := hq
        obtain ⟨g', hg', hm, hle⟩ := into_ex ho hq
        obtain ⟨ρ2, ho2⟩ := le_ok ho hle
        exact ⟨an.m s g', hm, g', ρ2, rfl, hg', ho2⟩
      | exit id => exact hq
      | ret => exact hq
      | goto l => exact hq
      | panic c => exact hq
      | outgrown => exact hq
  | .rangeFunc _ _ _ _, _, _, h, _, _, _, _ => h.elim
  | .scope _, _, _, h, _, _, _, _ => h.elim
  | .goto _, _, _, h, _, _, _, _ => h.elim
  | .refuse _, _, _, h, _, _, _, _ => h.elim
end

/-! ### Contracts -/
/-- A value reads as data of a type. -/
def RdV (S : Nat → Prop) (w : World) (t : Ty) (v : Value) (x : t.D) : Prop :=
  match t.agg with
  | true => ∃ cs, v = .agg cs ∧ Rd S w t cs.toList x
  | false => Rd S w t [v] x
def RdVs (S : Nat → Prop) (w : World) : (ts : List Ty) → List Value → HL ts → Prop
  | [], [], _ => True
  | t :: ts, v :: vs, x => RdV S w t v x.1 ∧ RdVs S w ts vs x.2
  | _, _, _ => False
def ResV (S : Nat → Prop) (w : World) : (ts : List Ty) → Value → HL ts → Prop
  | [t], v, x => RdV S w t v x.1
  | ts, v, x => ∃ vs, v = .tuple vs ∧ RdVs S w ts vs.toList x
/-- A slice that was made after the heap had B blocks, and that is nobody else's. -/
def FreshV (S : Nat → Prop) (B : Nat) (w : World) (t : Ty) (v : Value) (xs : List t.D) : Prop :=
  (v = .slice none 0 0 ∧ xs = []) ∨
    ∃ b o cp cur e, v = .slice (some ⟨b, o, none⟩) xs.length cp ∧ (B ≤ b ∧ b < w.heap.size) ∧ w.heap[b]? = some (.cells cur e (0, 0)) ∧ xs.length ≤ cp ∧ cp ≤ maxLen ∧
      o + cp * t.size ≤ cur.size ∧ ∀ (i : Nat) x, xs[i]? = some x → Rd (fun c => c ≠ b ∧ (S c ∨ (B ≤ c ∧ c < w.heap.size))) w t ((cur.toList.drop (o + i * t.size)).take t.size) x
def OwnV (S : Nat → Prop) (B : Nat) (w : World) : (rs : List Ty) → Value → HL rs → Prop
  | [.sl t], v, x => FreshV S B w t v x.1
  | .sl t :: u :: r, v, x => ∃ v0 r0, v = .tuple (v0 :: r0).toArray ∧ FreshV S B w t v0 x.1 ∧ RdVs (fun c => blkOf v0 ≠ some c ∧ (S c ∨ (B ≤ c ∧ c < w.heap.size))) w (u :: r) r0 x.2
  | _, _, _ => False
/-- Function g of the program keeps the contract c. -/
def CtrOk (P : Program) (g : Nat) (c : Ctr) : Prop :=
  Callable P g ∧ ∀ (S : Nat → Prop) (w : World) (args : Array Value) (x : HL c.as), (∀ b, S b → b < w.heap.size) → GlOk w → RdVs S w c.as args.toList x → c.pre x →
    Calls P g args w (fun e w' => ∃ v, e = .returned v ∧ (match c.own with
      | true => OwnV S w.heap.size w' c.rs v (c.f x)
      | false => ResV (fun b => S b ∨ (w.heap.size ≤ b ∧ b < w'.heap.size)) w' c.rs v (c.f x)) ∧ Below w.heap.size w w')

/-- The same where its last argument is the program's function h. -/
def CtrOkF (P : Program) (g h : Nat) (c : Ctr) : Prop :=
  Callable P g ∧ ∀ (S : Nat → Prop) (w : World) (args : Array Value) (x : HL c.as), (∀ b, S b → b < w.heap.size) → GlOk w → RdVs S w c.as args.toList x → c.pre x →
    Calls P g (args ++ #[.func (.func h) #[] #[]]) w (fun e w' => ∃ v, e = .returned v ∧ (match c.own with
      | true => OwnV S w.heap.size w' c.rs v (c.f x)
      | false => ResV (fun b => S b ∨ (w.heap.size ≤ b ∧ b < w'.heap.size)) w' c.rs v (c.f x)) ∧ Below w.heap.size w w')

/-- The same where its first argument is the nil slice. -/
def CtrOkN (P : Program) (g : Nat) (c : Ctr) : Prop :=
  Callable P g ∧ ∀ (S : Nat → Prop) (w : World) (args : List Value) (x : HL c.as), (∀ b, S b → b < w.heap.size) → GlOk w → RdVs S w c.as args x → c.pre x →
    Calls P g (.slice none 0 0 :: args).toArray w (fun e w' => ∃ v, e = .returned v ∧ (match c.own with
      | true => OwnV S w.heap.size w' c.rs v (c.f x)
      | false => ResV (fun b => S b ∨ (w.heap.size ≤ b ∧ b < w'.heap.size)) w' c.rs v (c.f x)) ∧ Below w.heap.size w w')
/-- The same where its first argument is the program's function h, which has caught a box, and the others are functions of the program: it is told of what the box holds. -/
def CtrOkC (P : Program) (g h : Nat) (fs : List Nat) (c : Ctr) : Prop :=
  Callable P g ∧ ∀ (S : Nat → Prop) (w : World) (b : Nat) (e : TypeId) (v : Value) (x : HL c.as), (∀ b, S b → b < w.heap.size) → GlOk w → w.heap[b]? = some (.cells #[v] e (0, 0)) → RdVs S w c.as [v] x → c.pre x →
    Calls P g (.func (.func h) #[] #[.pointer (some ⟨b, 0, none⟩)] :: fs.map fun f => .func (.func f) #[] #[]).toArray w (fun e w' => ∃ v, e = .returned v ∧ (match c.own with
      | true => OwnV S w.heap.size w' c.rs v (c.f x)
      | false => ResV (fun b => S b ∨ (w.heap.size ≤ b ∧ b < w'.heap.size)) w' c.rs v (c.f x)) ∧ Below w.heap.size w w')

theorem RdV.mono {S S' : Nat → Prop} {w w' : World} (k : Keeps S w S' w') {t : Ty} {v : Value} {x : t.D} (h : RdV S w t v x) : RdV S' w' t v x := by
  unfold RdV at h ⊢
  cases hg : t.agg <;> rw [hg] at h
  · exact Rd.mono k h
  · obtain ⟨cs, e, h⟩ := h; exact ⟨cs, e, Rd.mono k h⟩
theorem RdVs.mono {S S' : Nat → Prop} {w w' : World} (k : Keeps S w S' w') : ∀ {ts : List Ty} {vs : List Value} {x : HL ts}, RdVs S w ts vs x → RdVs S' w' ts vs x
  | [], [], _, _ => trivial
  | _ :: _, _ :: _, _, h => ⟨h.1.mono k, RdVs.mono k h.2⟩
  | [], _ :: _, _, h => h.elim
  | _ :: _, [], _, h => h.elim
theorem RdV.sv {c : Cx} {t : Ty} {v : Value} {x : t.D} (h : RdV c.S c.w t v x) : SVc c (.one (.d t x)) v := by
  show aggC c t.agg [.d t x] v
  unfold RdV at h
  cases hg : t.agg <;> rw [hg] at h
  · exact PsC.single h
  · obtain ⟨cs, e, h⟩ := h
    exact ⟨cs, e, PsC.single (p := .d t x) h⟩

/-- Data without slices reads so in any memory. -/
theorem Rd.any {S S' : Nat → Prop} {w w' : World} : ∀ {t : Ty} {cs : List Value} {x : t.D}, noSl t = true → Rd S w t cs x → Rd S' w' t cs x
  | .int _, _, _, _, h => h
  | .bool, _, _, _, h => h
  | .str, _, _, _, h => h
  | .sl _, _, _, hn, _ => by cases hn
  | .ref _, _, _, _, h => h
  | .err, _, _, _, h => h
  | .mp _ _, _, _, hn, _ => by cases hn
  | .arr n t, _, _, hn, h => ⟨h.1, h.2.1, fun i x hi => Rd.any (t := t) hn (h.2.2 i x hi)⟩
  | .pair a b, _, _, hn, h => by
    simp only [noSl, Bool.and_eq_true] at hn
    obtain ⟨l, m, e, h1, h2⟩ := h
    exact ⟨l, m, e, h1.any hn.1, h2.any hn.2⟩
theorem RdV.any {S S' : Nat → Prop} {w w' : World} {t : Ty} {v : Value} {x : t.D} (hn : noSl t = true) (h : RdV S w t v x) : RdV S' w' t v x := by
  unfold RdV at h ⊢
  cases hg : t.agg <;> rw [hg] at h
  · exact Rd.any hn h
  · obtain ⟨cs, e, h⟩ := h; exact ⟨cs, e, Rd.any hn h⟩
theorem RdVs.any {S S' : Nat → Prop} {w w' : World} : ∀ {ts : List Ty} {vs : List Value} {x : HL ts}, ts.all noSl = true → RdVs S w ts vs x → RdVs S' w' ts vs x
  | [], [], _, _, _ => trivial
  | _ :: _, _ :: _, _, hn, h => by
    simp only [List.all_cons, Bool.and_eq_true] at hn
    exact ⟨h.1.any hn.1, RdVs.any hn.2 h.2⟩
  | [], _ :: _, _, _, h => h.elim
  | _ :: _, [], _, _, h => h.elim
theorem ResV.any {S S' : Nat → Prop} {w w' : World} {ts : List Ty} {v : Value} {x : HL ts} (hn : ts.all noSl = true) (h : ResV S w ts v x) : ResV S' w' ts v x := by
  match ts, x, h with
  | [], x, ⟨vs, e, h⟩ => exact ⟨vs, e, h.any hn⟩
  | [t], x, h =>
    simp only [List.all_cons, Bool.and_eq_true] at hn
    exact RdV.any hn.1 h
  | t :: u :: ts, x, ⟨vs, e, h⟩ => exact ⟨vs, e, h.any hn⟩
theorem ResV.mono {S S' : Nat → Prop} {w w' : World} (k : Keeps S w S' w') {ts : List Ty} {v : Value} {x : HL ts} (h : ResV S w ts v x) : ResV S' w' ts v x := by
  match ts, x, h with
  | [], x, ⟨vs, e, h⟩ => exact ⟨vs, e, h.mono k⟩
  | [t], x, h => exact RdV.mono k h
  | t :: u :: ts, x, ⟨vs, e, h⟩ => exact ⟨vs, e, h.mono k⟩
theorem RdVs.tup {c : Cx} : ∀ {ts : List Ty} {vs : List Value} {x : HL ts}, RdVs c.S c.w ts vs x → tupC c (tupR ts x) vs
  | [], [], _, _ => rfl
  | t :: _, v :: vs, x, h => by
    refine ⟨v, vs, rfl, ?_, RdVs.tup h.2⟩
    have h1 := h.1
    unfold RdV at h1
    show aggC c t.agg [.d t x.1] v
    cases hg : t.agg <;> rw [hg] at h1
    · exact PsC.single h1
    · obtain ⟨cs, e, h1⟩ := h1
      exact ⟨cs, e, PsC.single (p := .d t x.1) h1⟩
  | [], _ :: _, _, h => h.elim
  | _ :: _, [], _, h => h.elim
theorem ResV.sv {c : Cx} {ts : List Ty} {v : Value} {x : HL ts} (h : ResV c.S c.w ts v x) : SVc c (resR ts x) v := by
  match ts, x, h with
  | [], x, ⟨vs, e, h⟩ => exact ⟨vs, e, h.tup⟩
  | [t], x, h => exact RdV.sv h
  | t :: u :: ts, x, ⟨vs, e, h⟩ => exact ⟨vs, e, h.tup⟩

section
variable {w0 : Base} {w : World} {ρ : Nat → Value} {s : St} {a : Act}

/-- A state's own slices read as data, where all memory may be read. -/
theorem res_c {S : Nat → Prop} (h : Ok w0 ρ s a w) (hS : ∀ b, b < w.heap.size → w0.S b → S b) {p : PV} {l : List Value} (hp : PVc (cx w0 ρ s w) p l) : PVc ⟨ρ, s.us, S, w⟩ (PV.res s p) l := by
  have hle : (cx w0 ρ s w).le ⟨ρ, s.us, S, w⟩ := ⟨fun _ hk => hk, fun _ _ => rfl, fun b hb => ⟨hS b hb.1 hb.2.2, rfl⟩⟩
  have hmono := hp.mono hle
  cases p with
  | sub k k' sz x y =>
    simp only [PV.res]
    split
    · rename_i t xs hd
      obtain ⟨A, cp, h1, h2, h3, h4⟩ := slD_cS (v := ρ k') h (SVc.of1 rfl (by have := hp.2.2.1; rw [this] at hp; exact hp)) hd
      refine ⟨A, cp, by rw [hp.2.2.1]; exact congrArg (fun v => [v]) h1, h2, h3, fun hpos => ?_⟩
      obtain ⟨b, q, e1, e2, e3⟩ := h4 hpos
      refine ⟨b, q, e1, hS b e2.1 e2.2, fun i z hi => ?_⟩
      obtain ⟨l2, g1, g2⟩ := e3 i z hi
      exact ⟨l2, fun j v hv => by rw [← Nat.add_assoc]; exact g1 j v hv, Rd.mono hle.keep g2⟩
    · exact hmono
  | bsl k off n sz =>
    simp only [PV.res]
    split
    · rename_i t xs hd
      obtain ⟨_, b0, _, hl⟩ := id hp
      obtain ⟨A, cp, h1, h2, h3, h4⟩ := slD_cS h (SVc.of1 (v := .slice (some ⟨b0, off, none⟩) n n) rfl (by rw [hl] at hp; exact hp)) hd
      refine ⟨A, cp, by rw [hl, h1], h2, h3, fun hpos => ?_⟩
      obtain ⟨b, q, e1, e2, e3⟩ := h4 hpos
      refine ⟨b, q, e1, hS b e2.1 e2.2, fun i z hi => ?_⟩
      obtain ⟨l2, g1, g2⟩ := e3 i z hi
      exact ⟨l2, fun j v hv => by rw [← Nat.add_assoc]; exact g1 j v hv, Rd.mono hle.keep g2⟩
    · exact hmono
  | row k =>
    simp only [PV.res]
    split
    · rename_i t xs hk
      obtain ⟨_, hl, _⟩ := hp
      rcases h.heap k _ hk with ⟨h1, rfl⟩ | ⟨b, o, cp, cur, e, h1, h2, h3, h4, h5, h6⟩
      · exact ⟨none, 0, by rw [hl, h1]; rfl, Nat.le_refl _, by simp [maxLen], fun h => absurd h (by simp)⟩
      · have hfr := h.fresh k _ b hk (by rw [show ρ k = _ from h1]; rfl)
        refine ⟨_, cp, by rw [hl, h1], h3, h4, fun _ => ⟨b, o, rfl, hS b hfr.2 (w0.all b hfr.1), fun i x hx => ⟨_, fun j v hv => ?_, Rd.mono hle.keep (h6 i x hx)⟩⟩⟩
        have := At.of_block h2 (o + i * t.size) t.size j v hv
        rwa [Nat.add_assoc] at this
    · rename_i kk t xs hk
      obtain ⟨_, hl, _⟩ := hp
      obtain ⟨b, es, clock, h1, h2, h3, _⟩ := h.heap k _ hk
      have hfr := h.fresh k _ b hk (by rw [show ρ k = _ from h1]; rfl)
      have h3' := (MapC.keep (c' := ⟨ρ, s.us, S, w⟩) hle.keep h3).to
      exact .inr ⟨b, es, clock, by rw [hl, h1], hS b hfr.2 (w0.all b hfr.1), h2, h3'.1, h3'.2⟩
    · exact hmono
  | _ => exact hmono
theorem resPs_c {S : Nat → Prop} (h : Ok w0 ρ s a w) (hS : ∀ b, b < w.heap.size → w0.S b → S b) : ∀ {ps : List PV} {l : List Value}, PsC (cx w0 ρ s w) ps l → PsC ⟨ρ, s.us, S, w⟩ (ps.map (PV.res s)) l
  | [], _, hp => hp
  | _ :: _, _, ⟨l1, l2, e, h1, h2⟩ => ⟨l1, l2, e, res_c h hS h1, resPs_c h hS h2⟩

theorem notAgg_c {c : Cx} {x : SV} {v : Value} {ps : List PV} (h : SVc c x v) (hx : x.isAgg = false) (hps : x.parts = some ps) : v.cells.toList = [v] := by
  cases x with
  | agg ps => cases hx
  | tup es => cases hps
  | cnd _ _ => cases hps
  | one p =>
    have hn : p ≠ .any := fun e => by subst e; cases hps
    have h1 := SVc.one1 (p := p) hx hn h
    have := h1.one v (by simp)
    cases v <;> first | rfl | cases this

theorem rdArg_c {S : Nat → Prop} (h : Ok w0 ρ s a w) (hS : ∀ b, b < w.heap.size → w0.S b → S b) {bor : Bool} {t : Ty} {v : SV} {u : Value} {x : t.D} (hv : SVc (cx w0 ρ s w) v u)
    (hr : rdArg s bor t v = some x) : RdV (bif bor then S else Free w0 ρ s.hp w) w t u x := by
  unfold rdArg at hr
  split at hr
  · rename_i ps hps
    cases hx : Bool.xor v.isAgg t.agg with
    | true => rw [hx] at hr; cases hr
    | false =>
      rw [hx] at hr
      simp only [cond_false] at hr
      have hag : v.isAgg = t.agg := by cases e1 : v.isAgg <;> cases e2 : t.agg <;> rw [e1, e2] at hx <;> first | rfl | cases hx
      have hp := SVparts_c hv hps
      have hrd : Rd (bif bor then S else Free w0 ρ s.hp w) w t u.cells.toList x := by
        cases bor with
        | true => exact rdAll_c (c := ⟨ρ, s.us, S, w⟩) hr (resPs_c h hS hp)
        | false => exact rdAll_c (c := cx w0 ρ s w) hr hp
      unfold RdV
      cases hg : t.agg with
      | true =>
        obtain ⟨cs, e⟩ := isAgg_c hv (by rw [hag, hg])
        rw [e] at hrd
        exact ⟨cs, e, hrd⟩
      | false =>
        rw [notAgg_c hv (by rw [hag, hg]) hps] at hrd
        exact hrd
  · cases hr
theorem rdArgs_c {S : Nat → Prop} (h : Ok w0 ρ s a w) (hS : ∀ b, b < w.heap.size → w0.S b → S b) {bor : Bool} : ∀ {ts : List Ty} {vs : List SV} {us : List Value} {x : HL ts}, argsC (cx w0 ρ s w) vs us →
    rdArgs s bor ts vs = some x → RdVs (bif bor then S else Free w0 ρ s.hp w) w ts us x
  | [], [], [], _, _, _ => trivial
  | t :: ts, v :: vs, u :: us, x, ha, hr => by
    unfold rdArgs at hr
    split at hr
    · rename_i y hy
      split at hr
      · rename_i z hz
        injection hr with hr
        subst hr
        exact ⟨rdArg_c h hS ha.1 hy, rdArgs_c h hS ha.2 hz⟩
      · cases hr
    · cases hr
  | [], _ :: _, _, _, _, hr => by cases hr
  | _ :: _, [], _, _, _, hr => by cases hr
  | [], [], _ :: _, _, ha, _ => ha.elim
  | _ :: _, _ :: _, [], _, ha, _ => ha.elim
end

section
variable {P : Program} {X : Fx}

/-! ### Calls of functions that change memory of ours. -/
/-- Function g of the program keeps the contract p. -/
def PrcOk (P : Program) (g : Nat) (p : Prc) : Prop :=
  Callable P g ∧ ∀ (w0 : Base) (ρ : Nat → Value) (w : World) (vs : Array Value) (x : p.G), Ok w0 ρ (p.st x) { tmps := vs, defers := [] } w → p.pre x → p.lens x →
    Calls P g vs w (fun e w' => ∃ v ρ2, e = .returned v ∧ (∀ n, trkd (trks (p.inv x).heap) n = true → ρ2 n = ρ n) ∧ Ok w0 ρ2 (hpOf (p.inv (p.f x).1).heap) { tmps := #[], defers := [] } w' ∧ ResV (fun _ => True) w' p.rs v (p.f x).2)
/-- Function g keeps the contract p, and hands back the slice that the name n0 names (it may lie elsewhere). -/
def PrcOkO (P : Program) (g : Nat) (p : Prc) (n0 : Nat) : Prop :=
  Callable P g ∧ ∀ (w0 : Base) (ρ : Nat → Value) (w : World) (vs : Array Value) (x : p.G), Ok w0 ρ (p.st x) { tmps := vs, defers := [] } w → p.pre x → p.lens x →
    Calls P g vs w (fun e w' => ∃ ρ2, e = .returned (ρ2 n0) ∧ (∀ n, n ≠ n0 → trkd (trks (p.inv x).heap) n = true → ρ2 n = ρ n) ∧ (ρ2 n0).oneCell' = true ∧ Ok w0 ρ2 (hpOf (p.inv (p.f x).1).heap) { tmps := #[], defers := [] } w')
/-- What is given to the executor is true of the program. -/
structure FxAll (P : Program) (X : Fx) : Prop where
  ok : FxOk P X
  ctr : ∀ g c, X.K g = some c → CtrOk P g c
  ctrF : ∀ g h c, X.KF g h = some c → CtrOkF P g h c
  ctrN : ∀ g c, X.KN g = some c → CtrOkN P g c
  ctrC : ∀ g h fs c, X.KC g h fs = some c → CtrOkC P g h fs c
  prc : ∀ g p, X.PR g = some p → PrcOk P g p
  po : ∀ g q, X.PO g = some q → PrcOkO P g q.1 q.2
  fn : ∀ g fn, X.fn g = some fn → P.funcs[g]? = some fn ∧ (fn.name == "runtime.NumGoroutine") = false

theorem free_new {S : Nat → Prop} {k : Nat} {v : Value} {s : St} {he : HE} {w0 : Base} {ρ : Nat → Value} {a : Act} {w w' : World} (h : Ok w0 ρ s a w) (hn : ∀ b, S b → Free w0 ρ s.hp w b) (hb : Below w.heap.size w w') {c : Nat}
    (hpl : he.pl = true) (hc : blkOf v ≠ some c) (hc2 : S c ∨ (w.heap.size ≤ c ∧ c < w'.heap.size)) : Free w0 (rset ρ k v) (s.new k he).hp w' c := by
  have hlt : c < w'.heap.size := by
    rcases hc2 with q | q
    · exact Nat.lt_of_lt_of_le (hn c q).1 hb.size
    · exact q.2
  refine ⟨hlt, fun k' he' hk' e2 => ?_, ?_⟩
  · by_cases ek : k' = k
    · subst ek
      rw [rset_same] at e2
      have : he = he' := by have := hk'; rw [show (s.new k' he).hp k' = some he from hset_same _ _ _] at this; injection this
      subst this
      exact hc ((Bk_pl hpl).1 e2)
    · have hk2 : s.hp k' = some he' := by
        have : hset s.hp k (some he) k' = some he' := hk'
        rwa [hset_other s.hp (some he) ek] at this
      rw [rset_other ρ v ek] at e2
      rcases hc2 with q | q
      · exact (hn c q).2.1 k' he' hk2 e2
      · have := (h.fresh k' he' c hk2 e2).2
        omega
  · rcases hc2 with q | q
    · exact (hn c q).2.2
    · exact w0.all c (h.newold q.1)
theorem own_new {S : Nat → Prop} {t : Ty} {xs : List t.D} {k : Nat} {v : Value} {s : St} {w0 : Base} {ρ : Nat → Value} {a : Act} {w w' : World} (h : Ok w0 ρ s a w) (hus : s.us k = false) (hn : noSl t = true ∨ ∀ b, S b → Free w0 ρ s.hp w b) (hb : Below w.heap.size w w')
    (hv : FreshV S w.heap.size w' t v xs) : Ok w0 (rset ρ k v) (s.new k (.row t xs)) a w' ∧ PVc (cx w0 (rset ρ k v) (s.new k (.row t xs)) w') (.row k) [v] := by
  have hone : v.oneCell' = true := by rcases hv with ⟨rfl, _⟩ | ⟨b, o, cp, cur, e, rfl, _⟩ <;> rfl
  refine ⟨h.new hus ⟨hb⟩ (fun b e => ?_) ?_, uset_same _ _, ?_, ?_⟩
  · rcases hv with ⟨rfl, _⟩ | ⟨b', o, cp, cur, e', rfl, h1, _⟩
    · cases e
    · have : b' = b := by simpa [Bk, blkOf] using e
      subst this; exact h1
  · rcases hv with ⟨rfl, rfl⟩ | ⟨b, o, cp, cur, e, rfl, h1, h2, h3, h4, h5, h6⟩
    · exact .inl ⟨rset_same _ _ _, rfl⟩
    · refine .inr ⟨b, o, cp, cur, e, rset_same _ _ _, h2, h3, h4, h5, fun i x hi => ?_⟩
      rcases hn with hn | hn
      · exact Rd.any hn (h6 i x hi)
      · refine Rd.mono (fun c hc => ⟨free_new (v := .slice (some ⟨b, o, none⟩) xs.length cp) h hn hb rfl (fun e => hc.1 ?_) hc.2, rfl⟩) (h6 i x hi)
        have e : b = c := by simpa [blkOf] using e
        exact e.symm
  · show [v] = [rset ρ k v k]
    rw [rset_same]
  · show (rset ρ k v k).oneCell' = true
    rw [rset_same]; exact hone
theorem ownR_sound {S : Nat → Prop} {rs : List Ty} {x : HL rs} {k : Nat} {v : Value} {sv : SV} {he : HE} {s : St} {w0 : Base} {ρ : Nat → Value} {a : Act} {w w' : World} (h : Ok w0 ρ s a w) (hus : s.us k = false) (hb : Below w.heap.size w w')
    (hok : ownOk rs = true) (hS : ownFl rs = true ∨ ∀ b, S b → Free w0 ρ s.hp w b) (hr : ownR k rs x = some (sv, he)) (hv : OwnV S w.heap.size w' rs v x) : ∃ ρ', Ok w0 ρ' (s.new k he) a w' ∧ SVc (cx w0 ρ' (s.new k he) w') sv v := by
  match rs, x, hok, hS, hr, hv with
  | [.sl t], x, hok, hS, hr, hv =>
    simp only [ownR, Option.some.injEq, Prod.mk.injEq] at hr
    obtain ⟨rfl, rfl⟩ := hr
    obtain ⟨h1, h2⟩ := own_new h hus (hS.imp (fun q => by simpa [ownFl] using q) id) hb hv
    exact ⟨_, h1, SVc.of1 rfl h2⟩
  | .sl t :: u :: r, x, hok, hS, hr, hv =>
    simp only [ownR, Option.some.injEq, Prod.mk.injEq] at hr
    obtain ⟨rfl, rfl⟩ := hr
    obtain ⟨v0, r0, rfl, hf, hrest⟩ := hv
    obtain ⟨h1, h2⟩ := own_new h hus (hS.imp (fun q => by simp only [ownFl, Bool.and_eq_true] at q; exact q.1) id) hb hf
    refine ⟨_, h1, _, rfl, v0, r0, by simp, PsC.single h2, ?_⟩
    rcases hS with hS | hS
    · simp only [ownFl, Bool.and_eq_true] at hS
      exact RdVs.tup (hrest.any hS.2)
    · exact RdVs.tup (hrest.mono fun c hc => ⟨free_new h hS hb rfl hc.1 hc.2, rfl⟩)
theorem ctrS_soundH {g : Nat} {c : Ctr} {args : List SV} {s : St} {K : SV → St → Prop} {w0 : Base} {ρ : Nat → Value} {a : Act} {w : World} {vs us : Array Value} (hc : ∀ (S : Nat → Prop) (x : HL c.as), (∀ b, S b → b < w.heap.size) → GlOk w → RdVs S w c.as vs.toList x → c.pre x →
    Calls P g us w (fun e w' => ∃ v, e = .returned v ∧ (match c.own with
      | true => OwnV S w.heap.size w' c.rs v (c.f x)
      | false => ResV (fun b => S b ∨ (w.heap.size ≤ b ∧ b < w'.heap.size)) w' c.rs v (c.f x)) ∧ Below w.heap.size w w')) (h : Ok w0 ρ s a w)
    {k : Nat} (hargs : argsC (cx w0 ρ s w) args vs.toList) (hk : ctrS c k s args K) :
    Calls P g us w (fun e w' => ∃ v sv s' ρ', e = .returned v ∧ Ok w0 ρ' s' a w' ∧ SVc (cx w0 ρ' s' w') sv v ∧ K sv s') := by
  unfold ctrS at hk
  cases ho : c.own with
  | true =>
    rw [ho] at hk
    simp only [cond_true] at hk
    cases hg : ownOk c.rs && !(s.us k) with
    | false => rw [hg] at hk; exact hk.elim
    | true =>
      rw [hg] at hk
      simp only [cond_true] at hk
      simp only [Bool.and_eq_true, Bool.not_eq_true'] at hg
      cases hfl : ownFl c.rs with
      | true =>
        rw [hfl] at hk
        simp only [cond_true] at hk
        split at hk
        · rename_i x hx
          split at hk
          · rename_i sv he hv
            obtain ⟨hpre, hK⟩ := hk
            have hr := rdArgs_c (S := fun b => b < w.heap.size) (bor := true) h (fun b hb _ => hb) hargs hx
            refine (hc (fun b => b < w.heap.size) x (fun _ hb => hb) h.gl hr hpre.out).mono fun e w' he' => ?_
            obtain ⟨v, rfl, hres, hbel⟩ := he'
            rw [ho] at hres
            obtain ⟨ρ', h1, h2⟩ := ownR_sound h hg.2 hbel hg.1 (.inl hfl) hv hres
            exact ⟨v, _, _, ρ', rfl, h1, h2, hK⟩
          · exact hk.elim
        · exact hk.elim
      | false =>
        rw [hfl] at hk
        simp only [cond_false] at hk
        split at hk
        · split at hk
          · rename_i x hx
            split at hk
            · rename_i sv he hv
              obtain ⟨hpre, hK⟩ := hk
              have hr := rdArgs_c (S := fun b => b < w.heap.size) (bor := false) h (fun b hb _ => hb) hargs hx
              refine (hc (Free w0 ρ s.hp w) x (fun _ hb => hb.1) h.gl hr hpre.out).mono fun e w' he' => ?_
              obtain ⟨v, rfl, hres, hbel⟩ := he'
              rw [ho] at hres
              obtain ⟨ρ', h1, h2⟩ := ownR_sound h hg.2 hbel hg.1 (.inr fun _ hb => hb) hv hres
              exact ⟨v, _, _, ρ', rfl, h1, h2, hK⟩
            · exact hk.elim
          · exact hk.elim
        · exact hk.elim
  | false =>
  rw [ho] at hk
  simp only [cond_false] at hk
  cases hn : c.rs.all noSl with
  | true =>
    rw [hn] at hk
    simp only [cond_true] at hk
    split at hk
    · rename_i x hx
      obtain ⟨hpre, hK⟩ := hk
      have hr := rdArgs_c (S := fun b => b < w.heap.size) (bor := true) h (fun b hb _ => hb) hargs hx
      refine (hc (fun b => b < w.heap.size) x (fun _ hb => hb) h.gl hr hpre.out).mono fun e w' he => ?_
      obtain ⟨v, rfl, hres, hbel⟩ := he
      rw [ho] at hres
      exact ⟨v, _, s, ρ, rfl, h.more ⟨hbel⟩, ResV.sv (c := cx w0 ρ s w') (hres.any hn), hK⟩
    · exact hk.elim
  | false =>
    rw [hn] at hk
    simp only [cond_false] at hk
    split at hk
    · split at hk
      · rename_i x hx
        obtain ⟨hpre, hK⟩ := hk
        have hr := rdArgs_c (S := fun b => b < w.heap.size) (bor := false) h (fun b hb _ => hb) hargs hx
        refine (hc (Free w0 ρ s.hp w) x (fun _ hb => hb.1) h.gl hr hpre.out).mono fun e w' he => ?_
        obtain ⟨v, rfl, hres, hbel⟩ := he
        rw [ho] at hres
        refine ⟨v, _, s, ρ, rfl, h.more ⟨hbel⟩, ResV.sv (c := cx w0 ρ s w') (hres.mono fun b hb => ⟨?_, rfl⟩), hK⟩
        rcases hb with hb | ⟨hb1, hb2⟩
        · exact ⟨Nat.lt_of_lt_of_le hb.1 hbel.size, hb.2.1, hb.2.2⟩
        · refine ⟨hb2, fun k he hk e => ?_, w0.all b (h.newold hb1)⟩
          have := (h.fresh k he b hk e).2
          omega
      · exact hk.elim
    · exact hk.elim

theorem ctrS_soundG {g : Nat} {c : Ctr} {ext : Array Value} (hc : ∀ (S : Nat → Prop) (w : World) (args : Array Value) (x : HL c.as), (∀ b, S b → b < w.heap.size) → GlOk w → RdVs S w c.as args.toList x → c.pre x →
    Calls P g (args ++ ext) w (fun e w' => ∃ v, e = .returned v ∧ (match c.own with
      | true => OwnV S w.heap.size w' c.rs v (c.f x)
      | false => ResV (fun b => S b ∨ (w.heap.size ≤ b ∧ b < w'.heap.size)) w' c.rs v (c.f x)) ∧ Below w.heap.size w w')) {args : List SV} {s : St} {K : SV → St → Prop} {w0 : Base} {ρ : Nat → Value} {a : Act} {w : World} {vs : Array Value} (h : Ok w0 ρ s a w)
    {k : Nat} (hargs : argsC (cx w0 ρ s w) args vs.toList) (hk : ctrS c k s args K) :
    Calls P g (vs ++ ext) w (fun e w' => ∃ v sv s' ρ', e = .returned v ∧ Ok w0 ρ' s' a w' ∧ SVc (cx w0 ρ' s' w') sv v ∧ K sv s') :=
  ctrS_soundH (vs := vs) (us := vs ++ ext) (fun S x h1 h2 h3 h4 => hc S w vs x h1 h2 h3 h4) h hargs hk

theorem ctrS_sound {g : Nat} {c : Ctr} (hc : CtrOk P g c) {args : List SV} {s : St} {K : SV → St → Prop} {w0 : Base} {ρ : Nat → Value} {a : Act} {w : World} {vs : Array Value} (h : Ok w0 ρ s a w)
    {k : Nat} (hargs : argsC (cx w0 ρ s w) args vs.toList) (hk : ctrS c k s args K) :
    Calls P g vs w (fun e w' => ∃ v sv s' ρ', e = .returned v ∧ Ok w0 ρ' s' a w' ∧ SVc (cx w0 ρ' s' w') sv v ∧ K sv s') := by
  have := ctrS_soundG (ext := #[]) (g := g) (c := c) (P := P) (fun S w args x h1 h4 h2 h3 => by rw [Array.append_empty]; exact hc.2 S w args x h1 h4 h2 h3) h hargs hk
  rwa [Array.append_empty] at this
theorem lastF_c {c : Cx} : ∀ {args l : List SV} {h : Nat} {vs : List Value}, lastF args = some (h, l) → argsC c args vs → ∃ us, vs = us ++ [.func (.func h) #[] #[]] ∧ argsC c l us
  | [], _, _, _, e, _ => by cases e
  | [x], l, h, [v], e, ha => by
    unfold lastF at e
    simp only [] at e
    split at e
    · rename_i h' fs cs
      cases hb : (fs.isEmpty && cs.isEmpty) with
      | false => rw [hb] at e; cases e
      | true =>
        rw [hb] at e
        cases e
        simp only [Bool.and_eq_true, Array.isEmpty_iff] at hb
        have h1 := SVc.one1 (p := .con (.func (.func h) fs cs)) rfl (by simp) ha.1
        have h2 : v = .func (.func h) fs cs := by simpa using h1.1
        rw [hb.1, hb.2] at h2
        exact ⟨[], by rw [h2]; rfl, trivial⟩
    · cases e
  | x :: y :: r, l, h, v :: vs, e, ha => by
    unfold lastF at e
    simp only [] at e
    split at e
    · rename_i h' l' e'
      cases e
      obtain ⟨us, e2, h2⟩ := lastF_c e' ha.2
      exact ⟨v :: us, by rw [e2]; rfl, ha.1, h2⟩
    · cases e
  | [_], _, _, [], _, ha => ha.elim
  | [_], _, _, _ :: _ :: _, _, ha => ha.2.elim
  | _ :: _ :: _, _, _, [], _, ha => ha.elim
theorem splitF_sound (hX : FxAll P X) {g : Nat} {c : Ctr} {args l : List SV} (hsp : splitF X g args = some (c, l)) {s : St} {K : SV → St → Prop} {w0 : Base} {ρ : Nat → Value} {a : Act} {w : World} {vs : Array Value} (h : Ok w0 ρ s a w)
    {k : Nat} (hargs : argsC (cx w0 ρ s w) args vs.toList) (hk : ctrS c k s l K) :
    Callable P g ∧ Calls P g vs w (fun e w' => ∃ v sv s' ρ', e = .returned v ∧ Ok w0 ρ' s' a w' ∧ SVc (cx w0 ρ' s' w') sv v ∧ K sv s') := by
  unfold splitF at hsp
  split at hsp
  · rename_i h' l' e
    split at hsp
    · rename_i c' hkf
      cases hsp
      have hc := hX.ctrF g h' c hkf
      obtain ⟨us, e1, h1⟩ := lastF_c e hargs
      have := ctrS_soundG (ext := #[.func (.func h') #[] #[]]) (g := g) (c := c) (P := P) hc.2 (vs := us.toArray) h (by simpa using h1) hk
      have e2 : us.toArray ++ #[.func (.func h') #[] #[]] = vs := by apply Array.ext'; simpa using e1.symm
      rw [e2] at this
      exact ⟨hc.1, this⟩
    · cases hsp
  · cases hsp
theorem pad_length : ∀ n, (pad n).length = n
  | 0 => rfl
  | n + 1 => by simp [pad, pad_length n]
theorem lget_pad : ∀ n i, lget (pad n) i = .one .any
  | 0, _ => rfl
  | _ + 1, 0 => rfl
  | n + 1, i + 1 => lget_pad n i
theorem lget_append : ∀ (x y : List SV) (i : Nat), lget (x ++ y) i = if i < x.length then lget x i else lget y (i - x.length)
  | [], y, i => by simp
  | _ :: _, _, 0 => by simp [lget]
  | _ :: x, y, i + 1 => by simpa [lget] using lget_append x y i
theorem argsC_get {c : Cx} : ∀ {xs : List SV} {vs : List Value}, argsC c xs vs → xs.length = vs.length ∧ ∀ i, SVc c (lget xs i) (vs.getD i undef)
  | [], [], _ => ⟨rfl, fun _ => trivial⟩
  | x :: xs, v :: vs, h => by
    obtain ⟨h1, h2⟩ := argsC_get h.2
    refine ⟨by simp [h1], fun i => ?_⟩
    cases i with
    | zero => exact h.1
    | succ i => simpa [lget] using h2 i
  | [], _ :: _, h => h.elim
  | _ :: _, [], h => h.elim

/-- A function's frame when it is entered. -/
theorem enter_frame {c : Cx} {args : List SV} {vs : Array Value} {n : Nat} (h : argsC c args vs.toList) (i : Nat) :
    SVc c (lget (args ++ pad (n - args.length)) i) ((vs ++ Array.replicate (n - vs.size) undef).getD i undef) := by
  obtain ⟨h1, h2⟩ := argsC_get h
  have h1' : args.length = vs.size := by simpa using h1
  rw [lget_append]
  by_cases hi : i < args.length
  · rw [if_pos hi]
    have := h2 i
    have e : (vs ++ Array.replicate (n - vs.size) undef).getD i undef = vs.toList.getD i undef := by
      have hlt : i < vs.size := by omega
      simp [Array.getElem?_append, hlt]
    rw [e]; exact this
  · rw [if_neg hi, lget_pad]; trivial

def resSem (tmps : Array Value) : ResultVar → Sem Value
  | .tmp t => pure (tmps.getD t undef)
  | .cell a t => do loadVar t (← asAddr (tmps.getD a undef))
theorem results_eq (fn : Func) (tmps : Array Value) : results fn tmps = (do
    let vs ← fn.results.mapM (resSem tmps)
    pure (if h : vs.size = 1 then vs[0] else .tuple vs)) := by
  unfold results
  congr 1

theorem resPart_c {E : Env} (hE : EnvOk P E) {w0 : Base} {ρ : Nat → Value} {s : St} {a : Act} {w : World} (h : Ok w0 ρ s a w) {r : ResultVar} {sv : SV} (hr : resPart E s r = some sv) :
    ∃ v, SVc (cx w0 ρ s w) sv v ∧ (resSem a.tmps r).run P w = .ok v w := by
  cases r with
  | tmp t =>
    injection hr with hr
    subst hr
    exact ⟨_, h.frame t, rfl⟩
  | cell ad t =>
    simp only [resPart] at hr
    split at hr
    · rename_i ti ps j hti hl
      split at hr
      · rename_i pre m post hc
        obtain ⟨b, q, l, e, hl1, hat⟩ := locS_c h (h.frame ad) hl
        obtain ⟨h1, h2⟩ := cut3_c hc hl1
        have hn : ((l.drop j).take ti.size).length = ti.size := by rw [List.length_take, List.length_drop]; omega
        refine ⟨_, mkSV_c hr h1, ?_⟩
        have := loadAt_run (w := w) (hE t ti hti) (hat.sub j ti.size) hn
        unfold Instr.loadAt Instr.sureAddr at this
        simp only [Sem.run_bind, Sem.run_pure, Result.andThen_ok] at this
        simp only [resSem, e, asAddr, Sem.run_bind, Sem.run_pure, Result.andThen_ok]
        exact this
      · cases hr
    · cases hr
theorem resParts_c {E : Env} (hE : EnvOk P E) {w0 : Base} {ρ : Nat → Value} {s : St} {a : Act} {w : World} (h : Ok w0 ρ s a w) : ∀ {rs : List ResultVar} {svs : List SV}, resParts E s rs = some svs →
    ∃ vs, (rs.mapM (resSem a.tmps)).run P w = .ok vs w ∧ argsC (cx w0 ρ s w) svs vs
  | [], svs, hr => by
    injection hr with hr
    subst hr
    exact ⟨[], rfl, trivial⟩
  | r :: rs, svs, hr => by
    unfold resParts at hr
    split at hr
    · rename_i v hv
      split at hr
      · rename_i vs hvs
        injection hr with hr
        subst hr
        obtain ⟨u, h1, h2⟩ := resPart_c hE h hv
        obtain ⟨us, h3, h4⟩ := resParts_c hE h hvs
        exact ⟨u :: us, by simp only [List.mapM_cons, Sem.run_bind, h2, Result.andThen_ok, h3, Sem.run_pure], h1, h4⟩
      · cases hr
    · cases hr
theorem tupOf_c {c : Cx} : ∀ {svs : List SV} {vs : List Value} {es : List (Bool × List PV)}, tupOf svs = some es → argsC c svs vs → tupC c es vs
  | [], [], es, h, _ => by injection h with h; subst h; rfl
  | [], _ :: _, _, _, h => h.elim
  | _ :: _, [], _, _, h => h.elim
  | .one p :: r, v :: vs, es, h, ha => by
    have hn : p ≠ .any := fun e => by subst e; cases h
    have h' : (match tupOf r with
      | some es => some ((p.agg, [p]) :: es)
      | none => none) = some es := by cases p <;> first | exact h | exact absurd rfl hn
    split at h'
    · rename_i fs hfs
      injection h' with h'
      subst h'
      refine ⟨v, vs, rfl, ?_, tupOf_c hfs ha.2⟩
      have := ha.1
      cases p <;> first | exact absurd rfl hn | exact this
    · cases h'
  | .agg ps :: r, v :: vs, es, h, ha => by
    simp only [tupOf] at h
    split at h
    · rename_i fs hfs
      injection h with h
      subst h
      exact ⟨v, vs, rfl, ha.1, tupOf_c hfs ha.2⟩
    · cases h
  | .tup _ :: _, _ :: _, _, h, _ => by cases h
theorem resS_c {E : Env} (hE : EnvOk P E) {w0 : Base} {ρ : Nat → Value} {s : St} {a : Act} {w : World} (h : Ok w0 ρ s a w) {fn : Func} {sv : SV} (hr : resS E s fn.results.toList = some sv) :
    ∃ v, (results fn a.tmps).run P w = .ok v w ∧ SVc (cx w0 ρ s w) sv v := by
  unfold resS at hr
  have hmap : ∀ vs, (fn.results.toList.mapM (resSem a.tmps)).run P w = .ok vs w → (results fn a.tmps).run P w = .ok (if h : vs.toArray.size = 1 then vs.toArray[0] else .tuple vs.toArray) w := fun vs hvs => by
    rw [results_eq, Array.mapM_eq_mapM_toList]
    simp [hvs]
  split at hr
  · rename_i v hv
    injection hr with hr
    subst hr
    obtain ⟨vs, h1, h2⟩ := resParts_c hE h hv
    match vs, h2 with
    | [u], h2 => exact ⟨u, by rw [hmap _ h1]; rfl, h2.1⟩
    | [], h2 => exact h2.elim
    | _ :: _ :: _, h2 => exact h2.2.elim
  · rename_i vs hne hvs
    split at hr
    · rename_i es hes
      injection hr with hr
      subst hr
      obtain ⟨us, h1, h2⟩ := resParts_c hE h hvs
      have hl : us.length ≠ 1 := fun e => by
        have := (argsC_get h2).1
        rw [e] at this
        match vs, this with
        | [x], _ => exact hne x rfl
      refine ⟨.tuple us.toArray, by rw [hmap _ h1, dif_neg (by simpa using hl)], us.toArray, rfl, ?_⟩
      simpa using tupOf_c hes h2
    · cases hr
  · cases hr

theorem lenLe_le : ∀ {x y : List SV}, lenLe x y = true → x.length ≤ y.length
  | [], _, _ => by simp
  | _ :: x, _ :: y, h => by simpa using lenLe_le (x := x) (y := y) h
  | _ :: _, [], h => by cases h
theorem takeL_eq : ∀ (x y : List SV), takeL x y = y.take x.length
  | [], y => by cases y <;> rfl
  | _ :: _, [] => rfl
  | _ :: x, _ :: y => by simp [takeL, takeL_eq x y]
theorem dropL_eq : ∀ (x y : List SV), dropL x y = y.drop x.length
  | [], y => by cases y <;> rfl
  | _ :: _, [] => rfl
  | _ :: x, _ :: y => by simp [dropL, dropL_eq x y]
theorem lget_take : ∀ (l : List SV) (n i : Nat), i < n → lget (l.take n) i = lget l i
  | [], n, i, _ => by simp
  | _ :: _, 0, _, h => by omega
  | _ :: _, _ + 1, 0, _ => rfl
  | _ :: l, n + 1, i + 1, h => lget_take l n i (by omega)
theorem lget_drop : ∀ (l : List SV) (n i : Nat), lget (l.drop n) i = lget l (n + i)
  | [], n, i => by simp [lget]
  | _ :: _, 0, i => by simp
  | _ :: l, n + 1, i => by
    rw [show n + 1 + i = (n + i) + 1 by omega]
    exact lget_drop l n i

structure Under (σ : Ren) (l : List (Nat × PV)) (c c' : Cx) : Prop where
  ρ : ∀ k, trkd l k = true → c'.ρ (σ.at k) = c.ρ k
  us : ∀ k, trkd l k = true → c'.us (σ.at k) = true
  keep : Keeps c.S c.w c'.S c'.w
theorem PVc.ren {σ : Ren} {l : List (Nat × PV)} {c c' : Cx} (h : Under σ l c c') {p : PV} {m : List Value} (hs : simpP l p = true) (hp : PVc c p m) : PVc c' (p.ren σ) m := by
  cases p with
  | any => exact hp
  | d t x => exact Rd.mono h.keep hp
  | lit b => exact hp
  | con v => exact hp
  | row k => exact ⟨h.us k hs, by rw [h.ρ k hs]; exact hp.2⟩
  | ptr k o => exact ⟨h.us k hs, by rw [h.ρ k hs]; exact hp.2⟩
  | clo k => exact ⟨h.us k hs, by rw [h.ρ k hs]; exact hp.2⟩
  | _ => cases hs
theorem PV.ren_agg {σ : Ren} (p : PV) : (p.ren σ).agg = p.agg := by cases p <;> rfl
theorem simpPs_mem {l : List (Nat × PV)} : ∀ {ps : List PV}, simpPs l ps = true → ∀ p ∈ ps, simpP l p = true
  | [], _ => fun p hp => by cases hp
  | q :: r, h => fun p hp => by
    unfold simpPs at h
    cases e : simpP l q with
    | false => rw [e] at h; cases h
    | true =>
      rw [e] at h
      rcases List.mem_cons.1 hp with rfl | hp
      · exact e
      · exact simpPs_mem h p hp
theorem PsC.ren {σ : Ren} {l : List (Nat × PV)} {c c' : Cx} (h : Under σ l c c') : ∀ {ps : List PV} {m : List Value}, simpPs l ps = true → PsC c ps m → PsC c' (ps.map (PV.ren σ)) m
  | [], _, _, hp => hp
  | p :: r, m, hs, hp => by
    obtain ⟨a, b, e, h1, h2⟩ := hp
    have hs1 := simpPs_mem hs p (by simp)
    refine ⟨a, b, e, h1.ren h hs1, PsC.ren h ?_ h2⟩
    unfold simpPs at hs
    rw [hs1] at hs
    exact hs
theorem HEc.ren {σ : Ren} {l : List (Nat × PV)} {c c' : Cx} (h : Under σ l c c') (hw : c'.w = c.w) {k : Nat} {he : HE} (hs : simpHE l he = true) (hk : (trkHE k he).isSome = true → c'.ρ (σ.at k) = c.ρ k) (hp : HEc c k he) :
    HEc c' (σ.at k) (he.ren σ) := by
  cases he with
  | box ps =>
    obtain ⟨b, e, cs, h1, h2, h3⟩ := hp
    exact ⟨b, e, cs, (hk rfl).trans h1, by rw [hw]; exact h2, h3.ren h hs⟩
  | row t xs =>
    rcases hp with ⟨h1, h2⟩ | ⟨b, o, cp, cur, e, h1, h2, h3, h4, h5, h6⟩
    · exact .inl ⟨(hk rfl).trans h1, h2⟩
    · exact .inr ⟨b, o, cp, cur, e, (hk rfl).trans h1, by rw [hw]; exact h2, h3, h4, h5, fun i x hi => Rd.mono h.keep (h6 i x hi)⟩
  | clo f caps =>
    obtain ⟨vs, h1, h2, h3, h4⟩ := hp
    refine ⟨vs, (hk rfl).trans h1, h2.ren h hs, by rw [List.length_map]; exact h3, fun p hp => ?_⟩
    obtain ⟨q, hq, rfl⟩ := List.mem_map.1 hp
    rw [PV.ren_agg]; exact h4 q hq
  | map kk t xs =>
    obtain ⟨b, es, cl, h1, h2, h3, h4⟩ := hp
    exact ⟨b, es, cl, (hk rfl).trans h1, by rw [hw]; exact h2, h3.keep h.keep, h4⟩
  | pool t m =>
    refine ⟨hp.1, fun e he => ?_⟩
    obtain ⟨h1, ty, cs, h2, h3⟩ := hp.2 e he
    exact ⟨h1, ty, cs, by rw [hw]; exact h2, Rd.mono h.keep h3⟩
  | pmap kk es => cases hs
  | mapit kk t xs r rem cur => cases hs
  | orw t xss => cases hs
theorem ren_bk {σ : Ren} {he : HE} {v : Value} {b : Nat} : Bk (he.ren σ) v b ↔ Bk he v b := by cases he <;> exact Iff.rfl
/-- What is owned is told by the name's value, if that is kept. -/
theorem bk_of {k : Nat} {he : HE} {l : List (Nat × PV)} (hs : simpHE l he = true) {v v' : Value} {b : Nat} (hv : (trkHE k he).isSome = true → v = v') (hb : Bk he v b) : Bk he v' b := by
  cases he with
  | pool t m => exact hb
  | pmap _ _ => cases hs
  | mapit _ _ _ _ _ _ => cases hs
  | orw _ _ => cases hs
  | _ => rw [← hv rfl]; exact hb
theorem trkd_iff {k : Nat} : ∀ {l : List (Nat × HE)}, trkd (trks l) k = true ↔ ∃ h, (k, h) ∈ l ∧ (trkHE k h).isSome = true
  | [] => by simp [trks, trkd]
  | (j, h) :: r => by
    have ih := trkd_iff (k := k) (l := r)
    unfold trks
    cases e : trkHE j h with
    | none =>
      show trkd (trks r) k = true ↔ _
      rw [ih]
      constructor
      · rintro ⟨h', hm, hs⟩; exact ⟨h', List.mem_cons_of_mem _ hm, hs⟩
      · rintro ⟨h', hm, hs⟩
        rcases List.mem_cons.1 hm with e2 | hm
        · injection e2 with e3 e4; subst e3; subst e4; rw [e] at hs; cases hs
        · exact ⟨h', hm, hs⟩
    | some p =>
      show trkd ((j, p) :: trks r) k = true ↔ _
      unfold trkd
      cases eb : Nat.beq k j with
      | true =>
        have := Nat.eq_of_beq_eq_true eb
        subst this
        exact ⟨fun _ => ⟨h, by simp, by rw [e]; rfl⟩, fun _ => rfl⟩
      | false =>
        rw [cond_false, ih]
        constructor
        · rintro ⟨h', hm, hs⟩; exact ⟨h', List.mem_cons_of_mem _ hm, hs⟩
        · rintro ⟨h', hm, hs⟩
          rcases List.mem_cons.1 hm with e2 | hm
          · injection e2 with e3 e4; subst e3; rw [Nat.beq_refl] at eb; cases eb
          · exact ⟨h', hm, hs⟩
theorem trkHE_any {k k' : Nat} {h : HE} : (trkHE k h).isSome = (trkHE k' h).isSome := by cases h <;> rfl
theorem sameNms_at : ∀ {l l' : List (Nat × HE)}, sameNms l l' = true → (∀ k h, (k, h) ∈ l → ∃ h', (k, h') ∈ l' ∧ (trkHE k h').isSome = (trkHE k h).isSome) ∧ (∀ k h', (k, h') ∈ l' → ∃ h, (k, h) ∈ l ∧ (trkHE k h).isSome = (trkHE k h').isSome)
  | [], [], _ => ⟨fun k h hm => (by cases hm), fun k h hm => (by cases hm)⟩
  | (k0, h0) :: r, (j0, g0) :: q, h => by
    unfold sameNms at h
    cases eb : Nat.beq k0 j0 with
    | false => rw [eb] at h; cases h
    | true =>
      rw [eb] at h
      simp only [cond_true] at h
      have := Nat.eq_of_beq_eq_true eb
      subst this
      have key : sameNms r q = true ∧ (trkHE k0 g0).isSome = (trkHE k0 h0).isSome := by
        split at h
        · rename_i e1 e2; exact ⟨h, by rw [e1, e2]; rfl⟩
        · rename_i e1 e2; exact ⟨h, by rw [e1, e2]⟩
        · cases h
      obtain ⟨i1, i2⟩ := sameNms_at key.1
      refine ⟨fun k h hm => ?_, fun k h' hm => ?_⟩
      · rcases List.mem_cons.1 hm with e | hm
        · injection e with e3 e4; subst e3; subst e4; exact ⟨g0, by simp, key.2⟩
        · obtain ⟨h', hm', e⟩ := i1 k h hm; exact ⟨h', List.mem_cons_of_mem _ hm', e⟩
      · rcases List.mem_cons.1 hm with e | hm
        · injection e with e3 e4; subst e3; subst e4; exact ⟨h0, by simp, key.2.symm⟩
        · obtain ⟨h', hm', e⟩ := i2 k h' hm; exact ⟨h', List.mem_cons_of_mem _ hm', e⟩
  | [], _ :: _, h => by cases h
  | _ :: _, [], h => by cases h
theorem simpH_mem {l : List (Nat × PV)} : ∀ {hs : List (Nat × HE)}, simpH l hs = true → ∀ k h, (k, h) ∈ hs → simpHE l h = true
  | [], _ => fun _ _ hp => by cases hp
  | (j, q) :: r, h => fun k he hp => by
    unfold simpH at h
    cases e : simpHE l q with
    | false => rw [e] at h; cases h
    | true =>
      rw [e] at h
      rcases List.mem_cons.1 hp with e2 | hp
      · injection e2 with _ e3; subst e3; exact e
      · exact simpH_mem h k he hp
theorem over_some {σ : Ren} {hp : Nat → Option HE} {n : Nat} {he : HE} : ∀ {l : List (Nat × HE)}, over σ hp l n = some he →
    (∃ k h, assoc l k = some h ∧ n = σ.at k ∧ he = h.ren σ) ∨ ((∀ k h, (k, h) ∈ l → n ≠ σ.at k) ∧ hp n = some he)
  | [], h => .inr ⟨fun _ _ hm => (by cases hm), h⟩
  | (k0, h0) :: r, h => by
    unfold over at h
    cases e : Nat.beq n (σ.at k0) with
    | true =>
      rw [e] at h
      simp only [cond_true, Option.some.injEq] at h
      exact .inl ⟨k0, h0, by unfold assoc; rw [Nat.beq_refl]; rfl, Nat.eq_of_beq_eq_true e, h.symm⟩
    | false =>
      rw [e] at h
      have hne : n ≠ σ.at k0 := fun e2 => by rw [e2, Nat.beq_refl] at e; cases e
      rcases over_some (l := r) h with ⟨k, h1, g1, g2, g3⟩ | ⟨g1, g2⟩
      · refine .inl ⟨k, h1, ?_, g2, g3⟩
        unfold assoc
        cases e3 : Nat.beq k k0 with
        | true => have := Nat.eq_of_beq_eq_true e3; subst this; exact absurd g2 hne
        | false => exact g1
      · refine .inr ⟨fun k h1 hm => ?_, g2⟩
        rcases List.mem_cons.1 hm with e2 | hm
        · injection e2 with e3 _; subst e3; exact hne
        · exact g1 k h1 hm
theorem over_none {σ : Ren} {hp : Nat → Option HE} {n : Nat} : ∀ {l : List (Nat × HE)}, (∀ k h, (k, h) ∈ l → n ≠ σ.at k) → over σ hp l n = hp n
  | [], _ => rfl
  | (k0, h0) :: r, h => by
    unfold over
    cases e : Nat.beq n (σ.at k0) with
    | true => exact absurd (Nat.eq_of_beq_eq_true e) (h k0 h0 (by simp))
    | false => exact over_none fun k h1 hm => h k h1 (List.mem_cons_of_mem _ hm)

/-- A function is entered: its arguments alone are its frame. -/
theorem Ok.enter {w0 : Base} {ρ : Nat → Value} {s : St} {a : Act} {w : World} (hok : Ok w0 ρ s a w) {args : List SV} {vs : Array Value} (hargs : argsC (cx w0 ρ s w) args vs.toList) :
    Ok { w0 with bv := a.tmps.toList ++ w0.bv } ρ { s with fr := args, bk := s.fr ++ s.bk } { tmps := vs, defers := [] } w := by
  obtain ⟨hal, hget⟩ := argsC_get hargs
  exact { defers := rfl, below := hok.below, len := by simpa using hal, frame := fun i => by
            have := hget i
            have e : vs.toList.getD i undef = vs.getD i undef := by simp
            rw [e] at this; exact this
          back := fun i => by
            show SVc (cx w0 ρ s w) (lget (s.fr ++ s.bk) i) ((a.tmps.toList ++ w0.bv).getD i undef)
            rw [lget_append]
            have hlen : s.fr.length = a.tmps.toList.length := by rw [hok.len]; simp
            by_cases hi : i < s.fr.length
            · rw [if_pos hi]
              have := hok.frame i
              have e : (a.tmps.toList ++ w0.bv).getD i undef = a.tmps.getD i undef := by
                have hlt : i < a.tmps.size := by rw [← hok.len]; exact hi
                simp [List.getElem?_append, hlt]
              rw [e]; exact this
            · rw [if_neg hi]
              have := hok.back (i - s.fr.length)
              have e : (a.tmps.toList ++ w0.bv).getD i undef = w0.bv.getD (i - s.fr.length) undef := by
                rw [hlen] at hi ⊢
                rw [List.getD, List.getD, List.getElem?_append_right (by omega)]
              rw [e]; exact this
          heap := hok.heap, used := hok.used, fresh := hok.fresh, apart := hok.apart }
/-- And left. -/
theorem Ok.leave {w0 : Base} {ρ ρ' : Nat → Value} {s s' : St} {a a' : Act} {w w' : World} (hok : Ok w0 ρ s a w) (ho : Ok { w0 with bv := a.tmps.toList ++ w0.bv } ρ' s' a' w') (hll : lenLe s.fr s'.bk = true) :
    Ok w0 ρ' { s' with fr := takeL s.fr s'.bk, bk := dropL s.fr s'.bk } a w' := by
  have hlen := lenLe_le hll
  have hlen2 : s.fr.length = a.tmps.toList.length := by rw [hok.len]; simp
  exact {
    defers := hok.defers, below := ho.below, len := by rw [takeL_eq, List.length_take, Nat.min_eq_left hlen]; exact hok.len,
    frame := fun i => by
      show SVc (cx w0 ρ' s' w') (lget (takeL s.fr s'.bk) i) (a.tmps.getD i undef)
      rw [takeL_eq]
      by_cases hi : i < s.fr.length
      · rw [lget_take _ _ _ hi]
        have := ho.back i
        have e : (a.tmps.toList ++ w0.bv).getD i undef = a.tmps.getD i undef := by
          have hlt : i < a.tmps.size := by rw [← hok.len]; exact hi
          simp [List.getElem?_append, hlt]
        rw [show ({ w0 with bv := a.tmps.toList ++ w0.bv } : Base).bv = a.tmps.toList ++ w0.bv from rfl, e] at this
        exact this
      · have e : lget (s'.bk.take s.fr.length) i = .one .any := by
          have hlt : (s'.bk.take s.fr.length).length ≤ i := by rw [List.length_take]; omega
          generalize s'.bk.take s.fr.length = l at hlt
          clear hi hlen2 hlen hll
          induction l generalizing i with
          | nil => rfl
          | cons x l ih =>
            cases i with
            | zero => simp at hlt
            | succ i => exact ih i (by simpa using hlt)
        rw [e]; trivial
    back := fun i => by
      show SVc (cx w0 ρ' s' w') (lget (dropL s.fr s'.bk) i) (w0.bv.getD i undef)
      rw [dropL_eq, lget_drop]
      have := ho.back (s.fr.length + i)
      have e : (a.tmps.toList ++ w0.bv).getD (s.fr.length + i) undef = w0.bv.getD i undef := by
        rw [hlen2, List.getD, List.getD, List.getElem?_append_right (by omega)]
        congr 2; omega
      rw [show ({ w0 with bv := a.tmps.toList ++ w0.bv } : Base).bv = a.tmps.toList ++ w0.bv from rfl, e] at this
      exact this
    heap := ho.heap, used := ho.used, fresh := ho.fresh, apart := ho.apart }
theorem prcS_sound {g : Nat} {p : Prc} (hp : PrcOk P g p) {args : List SV} {s : St} {K : SV → St → Prop} {w0 : Base} {ρ : Nat → Value} {a : Act} {w : World} {vs : Array Value} (h : Ok w0 ρ s a w)
    (hargs : argsC (cx w0 ρ s w) args vs.toList) (hk : prcS p args s K) :
    Calls P g vs w (fun e w' => ∃ v sv s' ρ', e = .returned v ∧ Ok w0 ρ' s' a w' ∧ SVc (cx w0 ρ' s' w') sv v ∧ K sv s') := by
  have hent := h.enter hargs
  unfold prcS at hk
  split at hk
  rotate_left
  · exact hk.elim
  rename_i x hx
  cases hns : p.rs.all noSl with
  | false => rw [hns] at hk; exact hk.elim
  | true =>
  rw [hns] at hk
  simp only [cond_true] at hk
  obtain ⟨hpre, hk⟩ := hk
  have hlens := p.told _ _ _ _ _ x hent hx
  have hst : ∀ v, p.inv x = v → p.st x = Inv.st (blank p.n) v := fun v e => by rw [← e]; rfl
  have hrun := hp.2 (x := x)
  have hnm : trkd (trks (p.inv x).heap) = trkd (trks (p.inv x).heap) := rfl
  generalize hv : p.inv x = v at hk hrun
  generalize hv' : p.inv (p.f x).1 = v' at hk hrun
  rw [hst v hv] at hrun
  try simp only [] at hk
  obtain ⟨ρ2, h2⟩ := packHeap_ok v.heap (s.nx + 1000000) _ ρ hent
  obtain ⟨ρ0, h0⟩ := nilSlots_ok v.slots s.nx _ ρ2 h2 v
  obtain ⟨ρ1, h1⟩ := nilHeap_ok v v.heap (s.nx + v.slots.length) _ ρ0 h0
  generalize nilHeap (nilSlots (packHeap { s with fr := args, bk := s.fr ++ s.bk } (s.nx + 1000000) v.heap) v s.nx v.slots) v (s.nx + v.slots.length) v.heap = s1 at h1 hk
  generalize mHeap s1 (mHeap s1 (mSlots s1 [] v.slots) v.heap) v.heap = σ at hk
  cases hb : (sameLen s1.fr (anys (pad p.n)) && (injN σ v.heap [] && (okSlots v v.slots [] && (okHeap v v.heap [] && (simpH (trks v.heap) v'.heap && (sameNms v.heap v'.heap && lenLe s.fr s1.bk)))))) with
  | false => rw [hb] at hk; exact hk.elim
  | true =>
  rw [hb] at hk
  simp only [cond_true] at hk
  obtain ⟨⟨hls, hlh⟩, hK⟩ := hk
  simp only [Bool.and_eq_true] at hb
  obtain ⟨hb1, hb2, hb3, hb4, hb5, hb6, hb7⟩ := hb
  obtain ⟨_, hinj⟩ := injN_inj hb2
  obtain ⟨hn1, hn2⟩ := sameNms_at hb6
  generalize hw1 : ({ w0 with bv := a.tmps.toList ++ w0.bv } : Base) = w1 at h1 hent
  let T : Nat → Prop := fun n => ∃ k he, (k, he) ∈ v.heap ∧ n = σ.at k
  let old2 : Nat → Prop := fun b => b < w.heap.size ∧ ∀ n he, T n → s1.hp n = some he → ¬ Bk he (ρ1 n) b
  let w2 : Base := { w := w, old := old2, oldlt := fun _ hb => hb.1, S := fun b => old2 b → Free w1 ρ1 s1.hp w b, all := fun b hb hb' => absurd hb' hb, bv := [], gl := h1.gl,
                     glold := fun q hq => ⟨(h1.gl q hq).1, fun n he _ hn hB => (h1.fresh n he _ hn hB).1 (w1.glold q hq)⟩ }
  have hmem : ∀ {k he}, (Inv.st (blank p.n) v).hp k = some he → (k, he) ∈ v.heap := fun e => assoc_mem e
  have hover : Over σ v (cx w1 ρ1 s1 w) (cx w2 (fun k => ρ1 (σ.at k)) (Inv.st (blank p.n) v) w) := by
    refine ⟨fun _ => rfl, fun k hk => hk, fun b hS => ⟨⟨hS.1, fun k he hk => ?_, fun _ => hS⟩, rfl⟩⟩
    obtain ⟨h', hh, hl⟩ := leHeap_mem hlh (hmem hk)
    exact fun hB => hS.2.1 _ h' hh (leHE_bk hl hB)
  have hTm : ∀ {k he}, (k, he) ∈ v.heap → ∃ h', s1.hp (σ.at k) = some h' ∧ leHE σ h' he := fun hm => leHeap_mem hlh hm
  have hcal : Ok w2 (fun k => ρ1 (σ.at k)) (Inv.st (blank p.n) v) { tmps := vs, defers := [] } w := by
    refine { defers := rfl, below := BelowS.refl _ _, len := ?_, frame := ?_, back := ?_, heap := ?_, used := ?_, fresh := ?_, apart := ?_ }
    · show (setSlots (anys (pad p.n)) v.slots).length = _
      rw [setSlots_length, ← sameLen_eq hb1]; exact h1.len
    · intro i
      show SVc _ (lget (setSlots (anys (pad p.n)) v.slots) i) _
      rcases lget_setSlots v.slots (anys (pad p.n)) i with e | ⟨y, hy, e⟩ | e
      · rw [e, lget_anys]; trivial
      · rw [e]
        exact leSV_c hover (leSlots_mem hls hy) (okSlots_mem hb3 hy) (h1.frame i)
      · rw [e]; trivial
    · intro i
      show SVc _ (lget [] i) _
      unfold lget; cases i <;> trivial
    · intro k he hk
      obtain ⟨h', hh, hle⟩ := hTm (hmem hk)
      exact leHE_c hover rfl hle (okHeap_mem hb4 (hmem hk)) (h1.heap _ h' hh)
    · intro k he hk
      show (assoc v.heap k).isSome = true
      rw [show assoc v.heap k = some he from hk]; rfl
    · intro k he b hk hbk
      obtain ⟨h', hh, hl⟩ := hTm (hmem hk)
      exact ⟨fun ho => ho.2 _ h' ⟨k, he, hmem hk, rfl⟩ hh (leHE_bk hl hbk), (h1.fresh _ h' b hh (leHE_bk hl hbk)).2⟩
    · intro k k' he he' b hne hk hk' hb1' hb2'
      obtain ⟨g1, hg, hl⟩ := hTm (hmem hk)
      obtain ⟨g1', hg', hl'⟩ := hTm (hmem hk')
      exact h1.apart _ _ g1 g1' b (fun e => hne (hinj k he k' he' (hmem hk) (hmem hk') e)) hg hg' (leHE_bk hl hb1') (leHE_bk hl' hb2')
  refine (hrun w2 _ w vs hcal hpre.out hlens).mono fun e w' he' => ?_
  obtain ⟨rv, ρ3, rfl, hρ3, hex, hres⟩ := he'
  have hnew : ∀ {n he}, over σ s1.hp v'.heap n = some he → (∃ k h', assoc v'.heap k = some h' ∧ n = σ.at k ∧ he = h'.ren σ ∧ simpHE (trks v.heap) h' = true ∧ ((trkHE k h').isSome = true → ρ3 k = ρ1 n)) ∨ ((∀ k h', (k, h') ∈ v.heap → n ≠ σ.at k) ∧ s1.hp n = some he) := fun {n he} ho => by
    rcases over_some ho with ⟨k, h', g1, g2, g3⟩ | ⟨g1, g2⟩
    · refine .inl ⟨k, h', g1, g2, g3, simpH_mem hb5 k h' (assoc_mem g1), fun hs => ?_⟩
      obtain ⟨h'', hm, e⟩ := hn2 k h' (assoc_mem g1)
      rw [g2]
      exact hρ3 k (trkd_iff.2 ⟨h'', hm, by rw [e]; exact hs⟩)
    · refine .inr ⟨fun k h' hm => ?_, g2⟩
      obtain ⟨h'', hm', _⟩ := hn1 k h' hm
      exact g1 k h'' hm'
  have hout : ∀ {n he}, (∀ k h', (k, h') ∈ v.heap → n ≠ σ.at k) → s1.hp n = some he → ∀ b, Bk he (ρ1 n) b → old2 b := fun {n he} hn hh b hB =>
    ⟨(h1.fresh n he b hh hB).2, fun n0 h0 ⟨k, h', hm, e⟩ hh0 hB0 => h1.apart n0 n h0 he b (fun e2 => hn k h' hm (e2.symm.trans e)) hh0 hh hB0 hB⟩
  have hown : ∀ b, ¬ old2 b → b < w.heap.size → ∃ n0 h0, T n0 ∧ s1.hp n0 = some h0 ∧ Bk h0 (ρ1 n0) b := fun b hb hlt =>
    Classical.byContradiction fun hc => hb ⟨hlt, fun n he hT hn hB => hc ⟨n, he, hT, hn, hB⟩⟩
  have hunder : Under σ (trks v.heap) (cx w2 ρ3 (hpOf v'.heap) w') (cx w1 ρ1 { s1 with hp := over σ s1.hp v'.heap } w') := by
    refine ⟨fun k hk => (hρ3 k hk).symm, fun k hk => ?_, fun b hS => ⟨⟨hS.1, fun n he hn hB => ?_, ?_⟩, rfl⟩⟩
    · obtain ⟨h', hm, _⟩ := trkd_iff.1 hk
      obtain ⟨h'', hh, _⟩ := hTm hm
      exact h1.used _ h'' hh
    · rcases hnew hn with ⟨k, h', g1, g2, g3, g4, g5⟩ | ⟨g1, g2⟩
      · rw [g3] at hB
        exact hS.2.1 k h' g1 (bk_of g4 (fun hs => (g5 hs).symm) (ren_bk.1 hB))
      · exact (hS.2.2 (hout g1 g2 b hB)).2.1 n he g2 hB
    · by_cases ho : old2 b
      · exact (hS.2.2 ho).2.2
      · rcases Nat.lt_or_ge b w.heap.size with hlt | hge
        · obtain ⟨n0, h0, _, hh, hB⟩ := hown b ho hlt
          exact w1.all b (h1.fresh n0 h0 b hh hB).1
        · exact w1.all b (h1.newold hge)
  have hok3 : Ok w1 ρ1 { s1 with hp := over σ s1.hp v'.heap } { tmps := vs, defers := [] } w' := by
    refine Ok.step T h1 rfl rfl (fun _ h => h) (fun _ _ => rfl) ⟨hex.below.os, hex.below.tape, hex.below.output, hex.below.size, fun b hb => hex.below.block b ⟨h1.oldlt hb, fun n he _ hn hB => (h1.fresh n he b hn hB).1 hb⟩⟩
      (fun n hT => over_none fun k h' hm e => ?_) (fun b hb hnb => hex.below.block b ⟨hb, hnb⟩) (fun n he b _ hn hB => ?_) (fun n he ⟨k, h', hm, e⟩ _ => ?_) (fun n n' he he' b hne hT hT' hn hn' hB hB' => ?_) (fun n he hT hn _ => ?_)
    · obtain ⟨h'', hm', _⟩ := hn2 k h' hm
      exact hT ⟨k, h'', hm', e⟩
    · rcases hnew hn with ⟨k, h', g1, g2, g3, g4, g5⟩ | ⟨g1, g2⟩
      · rw [g3] at hB
        have hf := hex.fresh k h' b g1 (bk_of g4 (fun hs => (g5 hs).symm) (ren_bk.1 hB))
        rcases Nat.lt_or_ge b w.heap.size with hlt | hge
        · exact .inl (hown b hf.1 hlt)
        · exact .inr ⟨hge, hf.2⟩
      · rename_i hT
        obtain ⟨k, h', hm, e⟩ := hT
        exact absurd e (g1 k h' hm)
    · obtain ⟨h'', hh, _⟩ := hTm hm
      rw [e]; exact h1.used _ h'' hh
    · rcases hnew hn with ⟨k, h', g1, g2, g3, g4, g5⟩ | ⟨g1, _⟩
      · rcases hnew hn' with ⟨k', h'', f1, f2, f3, f4, f5⟩ | ⟨f1, _⟩
        · rw [g3] at hB
          rw [f3] at hB'
          exact hex.apart k k' h' h'' b (fun e => hne (by rw [g2, f2, e])) g1 f1 (bk_of g4 (fun hs => (g5 hs).symm) (ren_bk.1 hB)) (bk_of f4 (fun hs => (f5 hs).symm) (ren_bk.1 hB'))
        · obtain ⟨k, h', hm, e⟩ := hT'
          exact absurd e (f1 k h' hm)
      · obtain ⟨k, h', hm, e⟩ := hT
        exact absurd e (g1 k h' hm)
    · rcases hnew hn with ⟨k, h', g1, g2, g3, g4, g5⟩ | ⟨g1, _⟩
      · rw [g3, g2]
        exact HEc.ren hunder rfl g4 (fun hs => by rw [← g2]; exact (g5 hs).symm) (hex.heap k h' g1)
      · obtain ⟨k, h', hm, e⟩ := hT
        exact absurd e (g1 k h' hm)
  subst hw1
  exact ⟨rv, _, _, ρ1, rfl, h.leave (s' := { s1 with hp := over σ s1.hp v'.heap }) hok3 hb7, ResV.sv (hres.any hns), hK⟩

theorem prcO_sound {g n0 k : Nat} {p : Prc} (hp : PrcOkO P g p n0) {args : List SV} {s : St} {K : SV → St → Prop} {w0 : Base} {ρ : Nat → Value} {a : Act} {w : World} {vs : Array Value} (h : Ok w0 ρ s a w)
    (hargs : argsC (cx w0 ρ s w) args vs.toList) (hk : prcO p n0 k args s K) :
    Calls P g vs w (fun e w' => ∃ v sv s' ρ', e = .returned v ∧ Ok w0 ρ' s' a w' ∧ SVc (cx w0 ρ' s' w') sv v ∧ K sv s') := by
  have hent := h.enter hargs
  unfold prcO at hk
  split at hk
  rotate_left
  · exact hk.elim
  rename_i x hx
  obtain ⟨hpre, hk⟩ := hk
  have hlens := p.told _ _ _ _ _ x hent hx
  have hst : ∀ v, p.inv x = v → p.st x = Inv.st (blank p.n) v := fun v e => by rw [← e]; rfl
  have hrun := hp.2 (x := x)
  have hnm : trkd (trks (p.inv x).heap) = trkd (trks (p.inv x).heap) := rfl
  generalize hv : p.inv x = v at hk hrun
  generalize hv' : p.inv (p.f x).1 = v' at hk hrun
  rw [hst v hv] at hrun
  try simp only [] at hk
  obtain ⟨ρ2, h2⟩ := packHeap_ok v.heap (s.nx + 1000000) _ ρ hent
  obtain ⟨ρ0, h0⟩ := nilSlots_ok v.slots s.nx _ ρ2 h2 v
  obtain ⟨ρ1, h1⟩ := nilHeap_ok v v.heap (s.nx + v.slots.length) _ ρ0 h0
  generalize nilHeap (nilSlots (packHeap { s with fr := args, bk := s.fr ++ s.bk } (s.nx + 1000000) v.heap) v s.nx v.slots) v (s.nx + v.slots.length) v.heap = s1 at h1 hk
  generalize mHeap s1 (mHeap s1 (mSlots s1 [] v.slots) v.heap) v.heap = σ at hk
  cases hb : (isRow (assoc v'.heap n0) && !(s1.us k)) && (sameLen s1.fr (anys (pad p.n)) && (injN σ v.heap [] && (okSlots v v.slots [] && (okHeap v v.heap [] && (simpH (trks v.heap) v'.heap && (sameNms v.heap v'.heap && lenLe s.fr s1.bk)))))) with
  | false => rw [hb] at hk; exact hk.elim
  | true =>
  rw [hb] at hk
  simp only [cond_true] at hk
  obtain ⟨⟨hls, hlh⟩, hK⟩ := hk
  simp only [Bool.and_eq_true] at hb
  obtain ⟨⟨hr0, hku⟩, hb1, hb2, hb3, hb4, hb5, hb6, hb7⟩ := hb
  have hku : s1.us k = false := by simpa using hku
  obtain ⟨_, hinj⟩ := injN_inj hb2
  obtain ⟨hn1, hn2⟩ := sameNms_at hb6
  generalize hw1 : ({ w0 with bv := a.tmps.toList ++ w0.bv } : Base) = w1 at h1 hent
  let T : Nat → Prop := fun n => ∃ k he, (k, he) ∈ v.heap ∧ n = σ.at k
  let old2 : Nat → Prop := fun b => b < w.heap.size ∧ ∀ n he, T n → s1.hp n = some he → ¬ Bk he (ρ1 n) b
  let w2 : Base := { w := w, old := old2, oldlt := fun _ hb => hb.1, S := fun b => old2 b → Free w1 ρ1 s1.hp w b, all := fun b hb hb' => absurd hb' hb, bv := [], gl := h1.gl,
                     glold := fun q hq => ⟨(h1.gl q hq).1, fun n he _ hn hB => (h1.fresh n he _ hn hB).1 (w1.glold q hq)⟩ }
  have hmem : ∀ {k he}, (Inv.st (blank p.n) v).hp k = some he → (k, he) ∈ v.heap := fun e => assoc_mem e
  have hover : Over σ v (cx w1 ρ1 s1 w) (cx w2 (fun k => ρ1 (σ.at k)) (Inv.st (blank p.n) v) w) := by
    refine ⟨fun _ => rfl, fun k hk => hk, fun b hS => ⟨⟨hS.1, fun k he hk => ?_, fun _ => hS⟩, rfl⟩⟩
    obtain ⟨h', hh, hl⟩ := leHeap_mem hlh (hmem hk)
    exact fun hB => hS.2.1 _ h' hh (leHE_bk hl hB)
  have hTm : ∀ {k he}, (k, he) ∈ v.heap → ∃ h', s1.hp (σ.at k) = some h' ∧ leHE σ h' he := fun hm => leHeap_mem hlh hm
  have hcal : Ok w2 (fun k => ρ1 (σ.at k)) (Inv.st (blank p.n) v) { tmps := vs, defers := [] } w := by
    refine { defers := rfl, below := BelowS.refl _ _, len := ?_, frame := ?_, back := ?_, heap := ?_, used := ?_, fresh := ?_, apart := ?_ }
    · show (setSlots (anys (pad p.n)) v.slots).length = _
      rw [setSlots_length, ← sameLen_eq hb1]; exact h1.len
    · intro i
      show SVc _ (lget (setSlots (anys (pad p.n)) v.slots) i) _
      rcases lget_setSlots v.slots (anys (pad p.n)) i with e | ⟨y, hy, e⟩ | e
      · rw [e, lget_anys]; trivial
      · rw [e]
        exact leSV_c hover (leSlots_mem hls hy) (okSlots_mem hb3 hy) (h1.frame i)
      · rw [e]; trivial
    · intro i
      show SVc _ (lget [] i) _
      unfold lget; cases i <;> trivial
    · intro k he hk
      obtain ⟨h', hh, hle⟩ := hTm (hmem hk)
      exact leHE_c hover rfl hle (okHeap_mem hb4 (hmem hk)) (h1.heap _ h' hh)
    · intro k he hk
      show (assoc v.heap k).isSome = true
      rw [show assoc v.heap k = some he from hk]; rfl
    · intro k he b hk hbk
      obtain ⟨h', hh, hl⟩ := hTm (hmem hk)
      exact ⟨fun ho => ho.2 _ h' ⟨k, he, hmem hk, rfl⟩ hh (leHE_bk hl hbk), (h1.fresh _ h' b hh (leHE_bk hl hbk)).2⟩
    · intro k k' he he' b hne hk hk' hb1' hb2'
      obtain ⟨g1, hg, hl⟩ := hTm (hmem hk)
      obtain ⟨g1', hg', hl'⟩ := hTm (hmem hk')
      exact h1.apart _ _ g1 g1' b (fun e => hne (hinj k he k' he' (hmem hk) (hmem hk') e)) hg hg' (leHE_bk hl hb1') (leHE_bk hl' hb2')
  refine (hrun w2 _ w vs hcal hpre.out hlens).mono fun e w' he' => ?_
  obtain ⟨ρ3, rfl, hρ3, hone, hex⟩ := he'
  let ρ4 : Nat → Value := rset ρ1 k (ρ3 n0)
  let σ2 : Ren := (n0, k) :: σ
  have hσ0 : Ren.at σ2 n0 = k := by
    show (bif Nat.beq n0 n0 then k else Ren.at σ n0) = k
    rw [Nat.beq_refl]; rfl
  have hσn : ∀ j, j ≠ n0 → Ren.at σ2 j = σ.at j := fun j hj => by
    show (bif Nat.beq j n0 then k else Ren.at σ j) = _
    have e2 : Nat.beq j n0 = false := by
      cases h : Nat.beq j n0
      · rfl
      · exact absurd (Nat.eq_of_beq_eq_true h) hj
    rw [e2]; rfl
  have hkn : ∀ {n he}, s1.hp n = some he → n ≠ k := fun {n he} hn e => by
    have := h1.used n he hn
    rw [e, hku] at this; cases this
  have hρ4 : ∀ {n}, n ≠ k → ρ4 n = ρ1 n := fun hn => rset_other _ _ hn
  have hρ4k : ρ4 k = ρ3 n0 := rset_same _ _ _
  have hdrop : ∀ {n he}, dropN s1.hp (σ.at n0) n = some he → n ≠ σ.at n0 ∧ s1.hp n = some he := fun {n he} hn => by
    unfold dropN at hn
    cases e : Nat.beq n (σ.at n0) with
    | true => rw [e] at hn; cases hn
    | false => rw [e] at hn; exact ⟨fun e2 => (by rw [e2, Nat.beq_refl] at e; cases e), hn⟩
  have hkeep : ∀ {j}, j ≠ n0 → trkd (trks v.heap) j = true → ρ3 j = ρ1 (σ.at j) := fun hj ht => hρ3 _ hj ht
  have hkσ : ∀ {j he}, (j, he) ∈ v.heap → σ.at j ≠ k := fun {j he} hm => by
    obtain ⟨h', hh, _⟩ := hTm hm
    exact hkn hh
  have htr : ∀ {j h'}, assoc v'.heap j = some h' → (trkHE j h').isSome = true → ρ3 j = ρ4 (Ren.at σ2 j) := fun {j h'} g1 hs => by
    by_cases e : j = n0
    · subst e
      rw [hσ0, hρ4k]
    · obtain ⟨h'', hm, e3⟩ := hn2 j h' (assoc_mem g1)
      rw [hσn j e, hρ4 (hkσ hm)]
      exact hkeep e (trkd_iff.2 ⟨h'', hm, by rw [e3]; exact hs⟩)
  have hnew : ∀ {n he}, over σ2 (dropN s1.hp (σ.at n0)) v'.heap n = some he → (∃ j h', assoc v'.heap j = some h' ∧ n = Ren.at σ2 j ∧ he = h'.ren σ2 ∧ simpHE (trks v.heap) h' = true ∧ ((trkHE j h').isSome = true → ρ3 j = ρ4 n)) ∨ ((∀ j h', (j, h') ∈ v.heap → n ≠ σ.at j) ∧ s1.hp n = some he) := fun {n he} ho => by
    rcases over_some ho with ⟨j, h', g1, g2, g3⟩ | ⟨g1, g2⟩
    · exact .inl ⟨j, h', g1, g2, g3, simpH_mem hb5 j h' (assoc_mem g1), fun hs => by rw [g2]; exact htr g1 hs⟩
    · obtain ⟨g3, g4⟩ := hdrop g2
      refine .inr ⟨fun j h' hm => ?_, g4⟩
      by_cases e : j = n0
      · rw [e]; exact g3
      · obtain ⟨h'', hm', _⟩ := hn1 j h' hm
        have := g1 j h'' hm'
        rwa [hσn j e] at this
  have hout : ∀ {n he}, (∀ j h', (j, h') ∈ v.heap → n ≠ σ.at j) → s1.hp n = some he → ∀ b, Bk he (ρ1 n) b → old2 b := fun {n he} hn hh b hB =>
    ⟨(h1.fresh n he b hh hB).2, fun n1 h0 ⟨j, h', hm, e⟩ hh0 hB0 => h1.apart n1 n h0 he b (fun e2 => hn j h' hm (e2.symm.trans e)) hh0 hh hB0 hB⟩
  have hown : ∀ b, ¬ old2 b → b < w.heap.size → ∃ n1 h0, T n1 ∧ s1.hp n1 = some h0 ∧ Bk h0 (ρ1 n1) b := fun b hb hlt =>
    Classical.byContradiction fun hc => hb ⟨hlt, fun n he hT hn hB => hc ⟨n, he, hT, hn, hB⟩⟩
  let s2 : St := { s1 with us := uset s1.us k, hp := over σ2 (dropN s1.hp (σ.at n0)) v'.heap }
  have hus2 : ∀ n, s1.us n = true → s2.us n = true := fun n hn => uset_of hn
  have hus2k : s2.us k = true := uset_same _ _
  have hunder : Under σ2 (trks v.heap) (cx w2 ρ3 (hpOf v'.heap) w') (cx w1 ρ4 s2 w') := by
    refine ⟨fun j hj => ?_, fun j hj => ?_, fun b hS => ⟨⟨hS.1, fun n he hn hB => ?_, ?_⟩, rfl⟩⟩
    · by_cases e : j = n0
      · subst e
        show ρ4 (Ren.at σ2 j) = ρ3 j
        rw [hσ0, hρ4k]
      · obtain ⟨h', hm, _⟩ := trkd_iff.1 hj
        show ρ4 (Ren.at σ2 j) = ρ3 j
        rw [hσn j e, hρ4 (hkσ hm)]
        exact (hkeep e hj).symm
    · by_cases e : j = n0
      · subst e
        show s2.us (Ren.at σ2 j) = true
        rw [hσ0]; exact hus2k
      · obtain ⟨h', hm, _⟩ := trkd_iff.1 hj
        obtain ⟨h'', hh, _⟩ := hTm hm
        show s2.us (Ren.at σ2 j) = true
        rw [hσn j e]
        exact hus2 _ (h1.used _ h'' hh)
    · rcases hnew hn with ⟨j, h', g1, g2, g3, g4, g5⟩ | ⟨g1, g2⟩
      · rw [g3] at hB
        exact hS.2.1 j h' g1 (bk_of g4 (fun hs => (g5 hs).symm) (ren_bk.1 hB))
      · rw [hρ4 (hkn g2)] at hB
        exact (hS.2.2 (hout g1 g2 b hB)).2.1 n he g2 hB
    · by_cases ho : old2 b
      · exact (hS.2.2 ho).2.2
      · rcases Nat.lt_or_ge b w.heap.size with hlt | hge
        · obtain ⟨n1, h0, _, hh, hB⟩ := hown b ho hlt
          exact w1.all b (h1.fresh n1 h0 b hh hB).1
        · exact w1.all b (h1.newold hge)
  have hTσ : ∀ {j h'}, (j, h') ∈ v'.heap → (T (Ren.at σ2 j) ∨ Ren.at σ2 j = k) ∧ s2.us (Ren.at σ2 j) = true := fun {j h'} hm => by
    by_cases e : j = n0
    · rw [e, hσ0]; exact ⟨.inr rfl, hus2k⟩
    · obtain ⟨h'', hm', _⟩ := hn2 j h' hm
      obtain ⟨h3, hh, _⟩ := hTm hm'
      rw [hσn j e]
      exact ⟨.inl ⟨j, h'', hm', rfl⟩, hus2 _ (h1.used _ h3 hh)⟩
  have hok3 : Ok w1 ρ4 s2 { tmps := vs, defers := [] } w' := by
    refine Ok.step (fun n => T n ∨ n = k) h1 rfl rfl hus2 (fun n hn => hρ4 (fun e => by rw [e, hku] at hn; cases hn)) ⟨hex.below.os, hex.below.tape, hex.below.output, hex.below.size, fun b hb => hex.below.block b ⟨h1.oldlt hb, fun n he _ hn hB => (h1.fresh n he b hn hB).1 hb⟩⟩
      (fun n hT => ?_) (fun b hb hnb => hex.below.block b ⟨hb, fun n he hT hn => hnb n he (.inl hT) hn⟩) (fun n he b hT hn hB => ?_) (fun n he hT hn => ?_) (fun n n' he he' b hne hT hT' hn hn' hB hB' => ?_) (fun n he hT hn _ => ?_)
    · show over σ2 (dropN s1.hp (σ.at n0)) v'.heap n = s1.hp n
      rw [over_none (fun j h' hm e => ?_)]
      · unfold dropN
        cases e : Nat.beq n (σ.at n0) with
        | false => rfl
        | true =>
          exfalso
          obtain ⟨he0, hm0⟩ : ∃ h', (n0, h') ∈ v'.heap := by
            cases ha : assoc v'.heap n0 with
            | none => rw [ha] at hr0; cases hr0
            | some h' => exact ⟨h', assoc_mem ha⟩
          obtain ⟨h'', hm', _⟩ := hn2 n0 he0 hm0
          exact hT (.inl ⟨n0, h'', hm', Nat.eq_of_beq_eq_true e⟩)
      · rcases (hTσ hm).1 with h | h
        · exact hT (.inl (by rw [e]; exact h))
        · exact hT (.inr (by rw [e]; exact h))
    · rcases hnew hn with ⟨j, h', g1, g2, g3, g4, g5⟩ | ⟨g1, g2⟩
      · rw [g3] at hB
        have hf := hex.fresh j h' b g1 (bk_of g4 (fun hs => (g5 hs).symm) (ren_bk.1 hB))
        rcases Nat.lt_or_ge b w.heap.size with hlt | hge
        · obtain ⟨n1, h0, q1, q2, q3⟩ := hown b hf.1 hlt
          exact .inl ⟨n1, h0, .inl q1, q2, q3⟩
        · exact .inr ⟨hge, hf.2⟩
      · rcases hT with ⟨j, h', hm, e⟩ | e
        · exact absurd e (g1 j h' hm)
        · exact absurd e (hkn g2)
    · rcases hnew hn with ⟨j, h', g1, g2, _⟩ | ⟨_, g2⟩
      · rw [g2]; exact (hTσ (assoc_mem g1)).2
      · exact hus2 _ (h1.used _ _ g2)
    · have hout' : ∀ {n he}, (T n ∨ n = k) → ¬ ((∀ j h', (j, h') ∈ v.heap → n ≠ σ.at j) ∧ s1.hp n = some he) := fun {n he} hT hc => by
        rcases hT with ⟨j, h', hm, e⟩ | e
        · exact hc.1 j h' hm e
        · exact hkn hc.2 e
      rcases hnew hn with ⟨j, h', g1, g2, g3, g4, g5⟩ | hc
      · rcases hnew hn' with ⟨j', h'', f1, f2, f3, f4, f5⟩ | hc
        · rw [g3] at hB
          rw [f3] at hB'
          exact hex.apart j j' h' h'' b (fun e => hne (by rw [g2, f2, e])) g1 f1 (bk_of g4 (fun hs => (g5 hs).symm) (ren_bk.1 hB)) (bk_of f4 (fun hs => (f5 hs).symm) (ren_bk.1 hB'))
        · exact absurd hc (hout' hT')
      · exact absurd hc (hout' hT)
    · rcases hnew hn with ⟨j, h', g1, g2, g3, g4, g5⟩ | ⟨g1, g2⟩
      · rw [g3, g2]
        exact HEc.ren hunder rfl g4 (fun hs => by rw [← g2]; exact (g5 hs).symm) (hex.heap j h' g1)
      · rcases hT with ⟨j, h', hm, e⟩ | e
        · exact absurd e (g1 j h' hm)
        · exact absurd e (hkn g2)
  subst hw1
  refine ⟨ρ3 n0, _, _, ρ4, rfl, h.leave (s' := s2) hok3 hb7, ?_, hK⟩
  exact SVc.of1 (p := .row k) rfl ⟨hus2k, by show [ρ3 n0] = [ρ4 k]; rw [hρ4k], by show (ρ4 k).oneCell' = true; rw [hρ4k]; exact hone⟩

theorem constFs_c {c : Cx} : ∀ {args : List SV} {l : List Nat} {vs : List Value}, constFs args = some l → argsC c args vs → vs = l.map fun f => .func (.func f) #[] #[]
  | [], l, [], e, _ => by cases e; rfl
  | x :: r, l, v :: vs, e, ha => by
    unfold constFs at e
    split at e
    · rename_i h; cases h
    · rename_i h' fs cs r' hx
      injection hx with hx1 hx2
      subst hx1; subst hx2
      cases hb : (fs.isEmpty && cs.isEmpty) with
      | false => rw [hb] at e; cases e
      | true =>
        rw [hb] at e
        simp only [cond_true] at e
        split at e
        · rename_i l' e'
          cases e
          simp only [Bool.and_eq_true, Array.isEmpty_iff] at hb
          have h1 := SVc.one1 (p := .con (.func (.func h') fs cs)) rfl (by simp) ha.1
          have h2 : v = .func (.func h') fs cs := by simpa using h1.1
          rw [hb.1, hb.2] at h2
          rw [h2, constFs_c e' ha.2]
          rfl
        · cases e
    · cases e
  | [], _, _ :: _, _, ha => ha.elim
  | _ :: _, _, [], _, ha => ha.elim
theorem splitX_sound (hX : FxAll P X) {g : Nat} {c : Ctr} {args l : List SV} {s : St} (hsp : splitX X s g args = some (c, l)) {K : SV → St → Prop} {w0 : Base} {ρ : Nat → Value} {a : Act} {w : World} {vs : Array Value} (h : Ok w0 ρ s a w)
    {k : Nat} (hargs : argsC (cx w0 ρ s w) args vs.toList) (hk : ctrS c k s l K) :
    Callable P g ∧ Calls P g vs w (fun e w' => ∃ v sv s' ρ', e = .returned v ∧ Ok w0 ρ' s' a w' ∧ SVc (cx w0 ρ' s' w') sv v ∧ K sv s') := by
  obtain ⟨us⟩ := vs
  unfold splitX at hsp
  split at hsp
  · rename_i r
    split at hsp
    · rename_i c' hkn
      cases hsp
      have hc := hX.ctrN g c hkn
      refine ⟨hc.1, ?_⟩
      match us, hargs with
      | [], hargs => exact hargs.elim
      | v :: us, hargs =>
        have h1 := SVc.one1 (p := .con (.slice none 0 0)) rfl (by simp) hargs.1
        have h2 : v = .slice none 0 0 := by simpa using h1.1
        subst h2
        exact ctrS_soundH (vs := us.toArray) (fun S x h1 h2 h3 h4 => hc.2 S w us x h1 h2 h3 h4) h hargs.2 hk
    · cases hsp
  · rename_i kc r
    split at hsp
    · rename_i hh b hkc
      split at hsp
      · rename_i p hbx
        cases hag : p.agg with
        | true => rw [hag] at hsp; cases hsp
        | false =>
          rw [hag] at hsp
          simp only [cond_false] at hsp
          split at hsp
          · rename_i fs hfs
            split at hsp
            · rename_i c' hkcc
              cases hsp
              have hc := hX.ctrC g hh fs c hkcc
              refine ⟨hc.1, ?_⟩
              match us, hargs with
              | [], hargs => exact hargs.elim
              | v :: us, hargs =>
                have h1 := SVc.one1 (p := .clo kc) rfl (by simp) hargs.1
                have h2 : v = ρ kc := (List.cons.inj h1.2.1).1
                obtain ⟨cvs, g1, g2, g3, _⟩ := h.heap kc _ hkc
                obtain ⟨bb, e, cs, k1, k2, k3⟩ := h.heap b _ hbx
                have g1 : ρ kc = .func (.func hh) #[] cvs := g1
                have k1 : ρ b = .pointer (some ⟨bb, 0, none⟩) := k1
                obtain ⟨x1, x2, g5, ⟨_, b2, g6, g7⟩, g8⟩ := g2
                have g6 : ρ b = .pointer (some ⟨b2, 0, none⟩) := g6
                rw [k1] at g6
                injection g6 with g6; injection g6 with g6; injection g6 with g6
                subst g6
                have g8 : x2 = [] := g8
                subst g8
                have g9 : cvs = #[.pointer (some ⟨bb, 0, none⟩)] := by
                  apply Array.ext'
                  rw [g5, g7]; rfl
                obtain ⟨y1, y2, k5, k6, k7⟩ := k3
                have k7 : y2 = [] := k7
                subst k7
                have hl := k6.len
                have hsz : p.size = 1 := by
                  cases p with
                  | d t x => cases t <;> first | rfl | cases hag
                  | orp _ _ _ => cases hag
                  | _ => rfl
                rw [hsz] at hl
                match y1, hl with
                | [u], _ =>
                  have k8 : cs = #[u] := by apply Array.ext'; rw [k5]; rfl
                  subst k8
                  subst g9
                  rw [g1] at h2
                  subst h2
                  have hf := constFs_c hfs hargs.2
                  subst hf
                  refine ctrS_soundH (vs := #[u]) (fun S x h1 h2 h3 h4 => hc.2 S w bb e u x h1 h2 k2 h3 h4) h ?_ hk
                  exact ⟨SVc.of1 hag k6, trivial⟩
            · cases hsp
          · cases hsp
      · cases hsp
    · cases hsp
  · cases hsp

theorem call_some {n k g : Nat} {c : Ctr} {args : List SV} {s : St} {K : SV → St → Prop} (h : X.K g = some c) : call X n k g args s K = ctrS c k s args K := by
  unfold call; rw [h]
theorem call_split {n k g : Nat} {c : Ctr} {args l : List SV} {s : St} {K : SV → St → Prop} (h : X.K g = none) (h' : splitF X g args = some (c, l)) : call X n k g args s K = ctrS c k s l K := by
  unfold call; rw [h, h']
theorem call_x {n k g : Nat} {c : Ctr} {args l : List SV} {s : St} {K : SV → St → Prop} (h : X.K g = none) (h' : splitF X g args = none) (hx : splitX X s g args = some (c, l)) : call X n k g args s K = ctrS c k s l K := by
  unfold call; rw [h, h', hx]
theorem call_prc {n k g : Nat} {p : Prc} {args : List SV} {s : St} {K : SV → St → Prop} (h : X.K g = none) (h' : splitF X g args = none) (hx : splitX X s g args = none) (h2 : X.PR g = some p) : call X n k g args s K = prcS p args s K := by
  unfold call; rw [h, h', hx, h2]
theorem call_po {n k g : Nat} {q : Prc × Nat} {args : List SV} {s : St} {K : SV → St → Prop} (h : X.K g = none) (h' : splitF X g args = none) (hx : splitX X s g args = none) (h2 : X.PR g = none) (h3 : X.PO g = some q) : call X n k g args s K = prcO q.1 q.2 k args s K := by
  unfold call; rw [h, h', hx, h2, h3]
theorem call_zero {k g : Nat} {args : List SV} {s : St} {K : SV → St → Prop} (h : X.K g = none) (h' : splitF X g args = none) (hx : splitX X s g args = none) (h2 : X.PR g = none) (h3 : X.PO g = none) : call X 0 k g args s K = False := by
  unfold call; rw [h, h', hx, h2, h3]
theorem call_succ {n k g : Nat} {args : List SV} {s : St} {K : SV → St → Prop} (h : X.K g = none) (h' : splitF X g args = none) (hx : splitX X s g args = none) (h2 : X.PR g = none) (h3 : X.PO g = none) : call X (n + 1) k g args s K = (match X.fn g with
        | some fn => (match fn.body with
          | some c => bif Nat.ble args.length fn.ntmps then
              code X (call X n) g c { s with fr := args ++ pad (fn.ntmps - args.length), bk := s.fr ++ s.bk } (fun e s' => match e with
                | .exit _ => False
                | _ => (match resS X.E s' fn.results.toList with
                  | some v => bif lenLe s.fr s'.bk then K v { s' with fr := takeL s.fr s'.bk, bk := dropL s.fr s'.bk } else False
                  | none => False)) else False
          | none => False)
        | none => False) := by
  conv => lhs; unfold call
  rw [h, h', hx, h2, h3]
  rfl
theorem call_sound (h : FxAll P X) (n : Nat) : CallOk P (call X n) := by
  induction n with
  | zero =>
    intro k g args s K w0 ρ a w vs hok hargs hk
    cases hcg : X.K g with
    | some c =>
      rw [call_some hcg] at hk
      exact ⟨(h.ctr g c hcg).1, ctrS_sound (h.ctr g c hcg) hok hargs hk⟩
    | none =>
      cases hsp : splitF X g args with
      | some cl => rw [call_split hcg hsp] at hk; exact splitF_sound h hsp hok hargs hk
      | none =>
        cases hx : splitX X s g args with
        | some cl => rw [call_x hcg hsp hx] at hk; exact splitX_sound h hx hok hargs hk
        | none =>
        cases hpr : X.PR g with
        | some p => rw [call_prc hcg hsp hx hpr] at hk; exact ⟨(h.prc g p hpr).1, prcS_sound (h.prc g p hpr) hok hargs hk⟩
        | none =>
        cases hpo : X.PO g with
        | some q => rw [call_po hcg hsp hx hpr hpo] at hk; exact ⟨(h.po g q hpo).1, prcO_sound (h.po g q hpo) hok hargs hk⟩
        | none => rw [call_zero hcg hsp hx hpr hpo] at hk; exact hk.elim
  | succ n ih =>
    intro k g args s K w0 ρ a w vs hok hargs hk
    cases hcg : X.K g with
    | some c =>
      rw [call_some hcg] at hk
      exact ⟨(h.ctr g c hcg).1, ctrS_sound (h.ctr g c hcg) hok hargs hk⟩
    | none =>
      cases hsp : splitF X g args with
      | some cl => rw [call_split hcg hsp] at hk; exact splitF_sound h hsp hok hargs hk
      | none =>
        cases hx : splitX X s g args with
        | some cl => rw [call_x hcg hsp hx] at hk; exact splitX_sound h hx hok hargs hk
        | none =>
        cases hpr : X.PR g with
        | some p => rw [call_prc hcg hsp hx hpr] at hk; exact ⟨(h.prc g p hpr).1, prcS_sound (h.prc g p hpr) hok hargs hk⟩
        | none =>
        cases hpo : X.PO g with
        | some q => rw [call_po hcg hsp hx hpr hpo] at hk; exact ⟨(h.po g q hpo).1, prcO_sound (h.po g q hpo) hok hargs hk⟩
        | none =>
        rw [call_succ hcg hsp hx hpr hpo] at hk
        split at hk
        · rename_i fn hfn
          obtain ⟨hf1, hf2⟩ := h.fn g fn hfn
          split at hk
          · rename_i c hbody
            refine ⟨⟨fn, hf1, hf2, by rw [hbody]; rfl⟩, ?_⟩
            cases hle : Nat.ble args.length fn.ntmps with
            | false => rw [hle] at hk; exact hk.elim
            | true =>
              rw [hle] at hk
              simp only [cond_true] at hk
              have hble := Nat.le_of_ble_eq_true hle
              have hal : args.length = vs.size := by simpa using (argsC_get hargs).1
              let w1 : Base := { w0 with bv := a.tmps.toList ++ w0.bv }
              have hok1 : Ok w1 ρ { s with fr := args ++ pad (fn.ntmps - args.length), bk := s.fr ++ s.bk } { tmps := vs ++ Array.replicate (fn.ntmps - vs.size) undef, defers := [] } w :=
                { defers := rfl, below := hok.below, len := by simp [pad_length]; omega, frame := fun i => enter_frame (c := cx w0 ρ s w) hargs i,
                  back := fun i => by
                    show SVc (cx w0 ρ s w) (lget (s.fr ++ s.bk) i) ((a.tmps.toList ++ w0.bv).getD i undef)
                    rw [lget_append]
                    have hlen : s.fr.length = a.tmps.toList.length := by rw [hok.len]; simp
                    by_cases hi : i < s.fr.length
                    · rw [if_pos hi]
                      have := hok.frame i
                      have e : (a.tmps.toList ++ w0.bv).getD i undef = a.tmps.getD i undef := by
                        have hlt : i < a.tmps.size := by rw [← hok.len]; exact hi
                        simp [List.getElem?_append, hlt]
                      rw [e]; exact this
                    · rw [if_neg hi]
                      have := hok.back (i - s.fr.length)
                      have e : (a.tmps.toList ++ w0.bv).getD i undef = w0.bv.getD (i - s.fr.length) undef := by
                        rw [hlen] at hi ⊢
                        rw [List.getD, List.getD, List.getElem?_append_right (by omega)]
                      rw [e]; exact this
                  heap := hok.heap, used := hok.used, fresh := hok.fresh, apart := hok.apart }
              have hcode := code_sound (f := g) (w0 := w1) h.ok ih ⟨fun k' g' c' hc' args' s' K' hh => by rw [call_some hc']; exact hh, fun k' g' c' args' l' hc' hsp' s' K' hh => by rw [call_split hc' hsp']; exact hh⟩ c _ _ hk ρ _ w hok1
              refine calls_of_wp hf1 hbody (wp_mono hcode fun e a' w' hq => ?_)
              have fin : ∀ ρ' s', Ok w1 ρ' s' a' w' → (match resS X.E s' fn.results.toList with
                  | some v => bif lenLe s.fr s'.bk then K v { s' with fr := takeL s.fr s'.bk, bk := dropL s.fr s'.bk } else False
                  | none => False) →
                  a'.defers = [] ∧ ∃ v, (results fn a'.tmps).run P w' = .ok v w' ∧ ∃ v2 sv s2 ρ2, Ending.returned v = Ending.returned v2 ∧ Ok w0 ρ2 s2 a w' ∧ SVc (cx w0 ρ2 s2 w') sv v2 ∧ K sv s2 := fun ρ' s' ho hr => by
                split at hr
                · rename_i sv hsv
                  cases hll : lenLe s.fr s'.bk with
                  | false => rw [hll] at hr; exact hr.elim
                  | true =>
                    rw [hll] at hr
                    simp only [cond_true] at hr
                    have hlen := lenLe_le hll
                    obtain ⟨v, h1, h2⟩ := resS_c (P := P) h.ok.env ho hsv
                    refine ⟨ho.defers, v, h1, v, sv, { s' with fr := takeL s.fr s'.bk, bk := dropL s.fr s'.bk }, ρ', rfl, ?_, h2, hr⟩
                    have hlen2 : s.fr.length = a.tmps.toList.length := by rw [hok.len]; simp
                    exact {
                            defers := hok.defers, below := ho.below, len := by rw [takeL_eq, List.length_take, Nat.min_eq_left hlen]; exact hok.len,
                            frame := fun i => by
                              show SVc (cx w0 ρ' s' w') (lget (takeL s.fr s'.bk) i) (a.tmps.getD i undef)
                              rw [takeL_eq]
                              by_cases hi : i < s.fr.length
                              · rw [lget_take _ _ _ hi]
                                have := ho.back i
                                have e : w1.bv.getD i undef = a.tmps.getD i undef := by
                                  have hlt : i < a.tmps.size := by rw [← hok.len]; exact hi
                                  show (a.tmps.toList ++ w0.bv).getD i undef = _
                                  simp [List.getElem?_append, hlt]
                                rw [e] at this; exact this
                              · have e : lget (s'.bk.take s.fr.length) i = .one .any := by
                                  have hlt : (s'.bk.take s.fr.length).length ≤ i := by rw [List.length_take]; omega
                                  generalize s'.bk.take s.fr.length = l at hlt
                                  clear hi hlen2 hlen h2 h1 hsv hll hr
                                  induction l generalizing i with
                                  | nil => rfl
                                  | cons x l ih =>
                                    cases i with
                                    | zero => simp at hlt
                                    | succ i => exact ih i (by simpa using hlt)
                                rw [e]; trivial
                            back := fun i => by
                              show SVc (cx w0 ρ' s' w') (lget (dropL s.fr s'.bk) i) (w0.bv.getD i undef)
                              rw [dropL_eq, lget_drop]
                              have := ho.back (s.fr.length + i)
                              have e : w1.bv.getD (s.fr.length + i) undef = w0.bv.getD i undef := by
                                show (a.tmps.toList ++ w0.bv).getD (s.fr.length + i) undef = _
                                rw [hlen2, List.getD, List.getD, List.getElem?_append_right (by omega)]
                                congr 2; omega
                              rw [e] at this; exact this
                            heap := ho.heap, used := ho.used, fresh := ho.fresh, apart := ho.apart }
                · exact hr.elim
              cases e with
              | normal => obtain ⟨ρ', s', ho, hr⟩ := hq; exact fin ρ' s' ho hr
              | ret => obtain ⟨ρ', s', ho, hr⟩ := hq; exact fin ρ' s' ho hr
              | exit id => obtain ⟨ρ', s', ho, hr⟩ := hq; exact hr.elim
              | goto l => exact hq.elim
              | panic c => exact hq.elim
              | outgrown => exact hq.elim
          · exact hk.elim
        · exact hk.elim

/-- The lengths of data's slices are lengths. -/
def Lens : (t : Ty) → t.D → Prop
  | .sl t, xs => xs.length ≤ 9223372036854775807 ∧ ∀ x ∈ xs, Lens t x
  | .arr n t, xs => xs.length = n ∧ ∀ x ∈ xs, Lens t x
  | .pair a b, x => Lens a x.1 ∧ Lens b x.2
  | .int k, n => IR k n
  | .str, l => isBytes l
  | .bool, _ => True
  | .ref _, a => (0 : Int) ≤ (a : Int) + 1 ∧ True
  | .err, _ => True
  | .mp kk t, xs => ∀ e ∈ xs, IR kk e.1 ∧ Lens t e.2
def LensL : (ts : List Ty) → HL ts → Prop
  | [], _ => True
  | t :: ts, x => Lens t x.1 ∧ LensL ts x.2
theorem neg_le_zero : (-1 : Int) ≤ 0 := by decide
theorem Rd.lens {S : Nat → Prop} {w : World} : ∀ {t : Ty} {cs : List Value} {x : t.D}, Rd S w t cs x → Lens t x
  | .int _, _, _, h => h.2
  | .bool, _, _, _ => trivial
  | .str, _, _, h => h.2
  | .ref _, _, x, h => by
    rcases h with ⟨h, _⟩ | ⟨h, _⟩
    · have h : @Eq Int x (-1) := h
      refine ⟨?_, trivial⟩
      show (0 : Int) ≤ (x : Int) + 1
      omega
    · have h : (0 : Int) ≤ x := h
      refine ⟨?_, trivial⟩
      show (0 : Int) ≤ (x : Int) + 1
      omega
  | .err, _, _, _ => trivial
  | .mp kk t, _, xs, h => by
    rcases h with ⟨h, _⟩ | ⟨b, es, clock, _, _, _, _, h5⟩
    · subst h; exact fun e he => by cases he
    · intro x hx
      obtain ⟨i, hi⟩ := List.mem_iff_getElem?.1 hx
      obtain ⟨e, _, _, g3, g4⟩ := h5 i x hi
      exact ⟨g3, g4.lens⟩
  | .sl t, _, xs, h => by
    obtain ⟨A, c, _, h2, h3, h4⟩ := h
    refine ⟨by simp only [maxLen] at h3; omega, fun x hx => ?_⟩
    obtain ⟨i, hi⟩ := List.mem_iff_getElem?.1 hx
    have hp : 0 < xs.length := by
      cases xs with
      | nil => cases hx
      | cons _ _ => simp
    obtain ⟨b, q, _, _, hr⟩ := h4 hp
    obtain ⟨l, _, hl⟩ := hr i x hi
    exact hl.lens
  | .arr n t, _, xs, h => by
    refine ⟨h.1, fun x hx => ?_⟩
    obtain ⟨i, hi⟩ := List.mem_iff_getElem?.1 hx
    exact (h.2.2 i x hi).lens
  | .pair a b, _, _, h => by
    obtain ⟨l, m, _, h1, h2⟩ := h
    exact ⟨h1.lens, h2.lens⟩
theorem RdV.lens {S : Nat → Prop} {w : World} {t : Ty} {v : Value} {x : t.D} (h : RdV S w t v x) : Lens t x := by
  unfold RdV at h
  cases hg : t.agg <;> rw [hg] at h
  · exact Rd.lens h
  · obtain ⟨cs, _, h⟩ := h; exact h.lens
theorem RdVs.lens {S : Nat → Prop} {w : World} : ∀ {ts : List Ty} {vs : List Value} {x : HL ts}, RdVs S w ts vs x → LensL ts x
  | [], [], _, _ => trivial
  | _ :: _, _ :: _, _, h => ⟨h.1.lens, RdVs.lens h.2⟩
  | [], _ :: _, _, h => h.elim
  | _ :: _, [], _, h => h.elim

theorem argsV_c {c : Cx} : ∀ {ts : List Ty} {vs : List Value} {x : HL ts}, RdVs c.S c.w ts vs x → argsC c (argsV ts x) vs
  | [], [], _, _ => trivial
  | _ :: _, _ :: _, _, h => ⟨h.1.sv, argsV_c h.2⟩
  | [], _ :: _, _, h => h.elim
  | _ :: _, [], _, h => h.elim
theorem argsV_length : ∀ {ts : List Ty} {x : HL ts}, (argsV ts x).length = ts.length
  | [], _ => rfl
  | _ :: _, _ => by simp [argsV, argsV_length]

theorem eqHL_eq : ∀ {ts : List Ty} {x y : HL ts}, eqHL ts x y → x = y
  | [], _, _, _ => rfl
  | [_], (a, ()), (b, ()), h => by
    have h : a = b := h
    rw [h]
  | _ :: _ :: _, (a, x), (b, y), h => by
    obtain ⟨h1, h2⟩ := h
    have h1 : a = b := h1
    have h2 : x = y := eqHL_eq h2
    rw [h1, h2]

theorem rdGo_c {w0 : Base} {ρ : Nat → Value} {s : St} {a : Act} {w : World} {S : Nat → Prop} (h : Ok w0 ρ s a w) (hS : ∀ b, b < w.heap.size → w0.S b → S b) :
    ∀ {ts : List Ty} {es : List (Bool × List PV)} {vs : List Value} {x : HL ts}, rdRes.go s ts es = some x → tupC (cx w0 ρ s w) es vs → RdVs S w ts vs x
  | [], [], vs, x, hr, ht => by
    have ht : vs = [] := ht
    subst ht; trivial
  | t :: ts, e :: es, vs, x, hr, ht => by
    obtain ⟨v, r, rfl, h1, h2⟩ := ht
    unfold rdRes.go at hr
    cases hx : Bool.xor e.1 t.agg with
    | true => rw [hx] at hr; cases hr
    | false =>
      rw [hx] at hr
      simp only [cond_false] at hr
      have hag : e.1 = t.agg := by cases e1 : e.1 <;> cases e2 : t.agg <;> rw [e1, e2] at hx <;> first | rfl | cases hx
      split at hr
      · rename_i y hy
        split at hr
        · rename_i z hz
          injection hr with hr
          subst hr
          refine ⟨?_, rdGo_c h hS hz h2⟩
          have hp := psParts_c (aggC_cells h1)
          have hrd : Rd S w t v.cells.toList y := rdAll_c (c := ⟨ρ, s.us, S, w⟩) hy (resPs_c h hS hp)
          unfold RdV
          rw [hag] at h1
          cases hg : t.agg with
          | true =>
            rw [hg] at h1
            obtain ⟨cs, e, _⟩ := h1
            rw [e] at hrd
            exact ⟨cs, e, hrd⟩
          | false =>
            rw [hg] at h1
            have h1 : PsC (cx w0 ρ s w) e.2 [v] := h1
            have hone := h1.one v (by simp)
            have : v.cells.toList = [v] := by cases v <;> first | rfl | cases hone
            rw [this] at hrd
            exact hrd
        · cases hr
      · cases hr
  | [], _ :: _, _, _, hr, _ => by cases hr
  | _ :: _, [], _, _, hr, _ => by cases hr
theorem rdRes_c {w0 : Base} {ρ : Nat → Value} {s : St} {a : Act} {w : World} {S : Nat → Prop} (h : Ok w0 ρ s a w) (hS : ∀ b, b < w.heap.size → w0.S b → S b) {ts : List Ty} {sv : SV} {v : Value} {x : HL ts}
    (hr : rdRes s ts sv = some x) (hv : SVc (cx w0 ρ s w) sv v) : ResV S w ts v x := by
  match ts, x, hr with
  | [t], x, hr =>
    have hr' : (match rdArg s true t sv with
      | some x => some ((x, ()) : HL [t])
      | none => none) = some x := by cases sv <;> exact hr
    split at hr'
    · rename_i y hy
      injection hr' with hr'
      subst hr'
      exact rdArg_c h hS (bor := true) hv hy
    · cases hr'
  | [], x, hr =>
    cases sv with
    | tup es =>
      obtain ⟨vs, e, ht⟩ := hv
      exact ⟨vs, e, rdGo_c h hS (ts := []) hr ht⟩
    | one p => cases hr
    | agg ps => cases hr
    | cnd _ _ => cases hr
  | t :: u :: ts, x, hr =>
    cases sv with
    | tup es =>
      obtain ⟨vs, e, ht⟩ := hv
      exact ⟨vs, e, rdGo_c h hS (ts := t :: u :: ts) hr ht⟩
    | one p => cases hr
    | agg ps => cases hr
    | cnd _ _ => cases hr

theorem res_c2 {w0 : Base} {ρ : Nat → Value} {s : St} {a : Act} {w : World} {S : Nat → Prop} {p0 : PV} (h : Ok w0 ρ s a w) (hF : ∀ b, Free w0 ρ s.hp w b → S b)
    (hN : ∀ j he b, (∀ k, p0 = .row k → j ≠ k) → s.hp j = some he → Bk he (ρ j) b → S b) {p : PV} (hr : restOk p0 p = true) {l : List Value} (hp : PVc (cx w0 ρ s w) p l) : PVc ⟨ρ, s.us, S, w⟩ (PV.res s p) l := by
  have hle : (cx w0 ρ s w).le ⟨ρ, s.us, S, w⟩ := ⟨fun _ hk => hk, fun _ _ => rfl, fun b hb => ⟨hF b hb, rfl⟩⟩
  have hmono := hp.mono hle
  cases p with
  | sub k k' sz x y => cases hr
  | bsl k off n sz => cases hr
  | row k =>
    have hne : ∀ k', p0 = .row k' → k ≠ k' := fun k' e => by
      subst e
      intro e2
      subst e2
      simp [restOk] at hr
    simp only [PV.res]
    split
    · rename_i t xs hk
      obtain ⟨_, hl, _⟩ := hp
      rcases h.heap k _ hk with ⟨h1, rfl⟩ | ⟨b, o, cp, cur, e, h1, h2, h3, h4, h5, h6⟩
      · exact ⟨none, 0, by rw [hl, h1]; rfl, Nat.le_refl _, by simp [maxLen], fun h => absurd h (by simp)⟩
      · refine ⟨_, cp, by rw [hl, h1], h3, h4, fun _ => ⟨b, o, rfl, hN k _ b hne hk (by show blkOf (ρ k) = _; rw [show ρ k = _ from h1]; rfl), fun i x hx => ⟨_, fun j v hv => ?_, Rd.mono hle.keep (h6 i x hx)⟩⟩⟩
        have := At.of_block h2 (o + i * t.size) t.size j v hv
        rwa [Nat.add_assoc] at this
    · rename_i kk t xs hk
      obtain ⟨_, hl, _⟩ := hp
      obtain ⟨b, es, clock, h1, h2, h3, _⟩ := h.heap k _ hk
      have h3' := (MapC.keep (c' := ⟨ρ, s.us, S, w⟩) hle.keep h3).to
      exact .inr ⟨b, es, clock, by rw [hl, h1], hN k _ b hne hk (by show blkOf (ρ k) = _; rw [show ρ k = _ from h1]; rfl), h2, h3'.1, h3'.2⟩
    · exact hmono
  | _ => exact hmono
theorem resPs_c2 {w0 : Base} {ρ : Nat → Value} {s : St} {a : Act} {w : World} {S : Nat → Prop} {p0 : PV} (h : Ok w0 ρ s a w) (hF : ∀ b, Free w0 ρ s.hp w b → S b)
    (hN : ∀ j he b, (∀ k, p0 = .row k → j ≠ k) → s.hp j = some he → Bk he (ρ j) b → S b) : ∀ {ps : List PV} {l : List Value}, ps.all (restOk p0) = true → PsC (cx w0 ρ s w) ps l → PsC ⟨ρ, s.us, S, w⟩ (ps.map (PV.res s)) l
  | [], _, _, hp => hp
  | _ :: _, _, hr, ⟨l1, l2, e, h1, h2⟩ => by
    simp only [List.all_cons, Bool.and_eq_true] at hr
    exact ⟨l1, l2, e, res_c2 h hF hN hr.1 h1, resPs_c2 h hF hN hr.2 h2⟩
theorem rdGo_c2 {w0 : Base} {ρ : Nat → Value} {s : St} {a : Act} {w : World} {S : Nat → Prop} {p0 : PV} (h : Ok w0 ρ s a w) (hF : ∀ b, Free w0 ρ s.hp w b → S b)
    (hN : ∀ j he b, (∀ k, p0 = .row k → j ≠ k) → s.hp j = some he → Bk he (ρ j) b → S b) :
    ∀ {ts : List Ty} {es : List (Bool × List PV)} {vs : List Value} {x : HL ts}, restOkE p0 es = true → rdRes.go s ts es = some x → tupC (cx w0 ρ s w) es vs → RdVs S w ts vs x
  | [], [], vs, x, _, hr, ht => by
    have ht : vs = [] := ht
    subst ht; trivial
  | t :: ts, e :: es, vs, x, ho, hr, ht => by
    obtain ⟨v, r, rfl, h1, h2⟩ := ht
    simp only [restOkE, Bool.and_eq_true] at ho
    unfold rdRes.go at hr
    cases hx : Bool.xor e.1 t.agg with
    | true => rw [hx] at hr; cases hr
    | false =>
      rw [hx] at hr
      simp only [cond_false] at hr
      have hag : e.1 = t.agg := by cases e1 : e.1 <;> cases e2 : t.agg <;> rw [e1, e2] at hx <;> first | rfl | cases hx
      split at hr
      · rename_i y hy
        split at hr
        · rename_i z hz
          injection hr with hr
          subst hr
          refine ⟨?_, rdGo_c2 h hF hN ho.2 hz h2⟩
          have hp := psParts_c (aggC_cells h1)
          have hrd : Rd S w t v.cells.toList y := rdAll_c (c := ⟨ρ, s.us, S, w⟩) hy (resPs_c2 h hF hN ho.1 hp)
          unfold RdV
          rw [hag] at h1
          cases hg : t.agg with
          | true =>
            rw [hg] at h1
            obtain ⟨cs, e, _⟩ := h1
            rw [e] at hrd
            exact ⟨cs, e, hrd⟩
          | false =>
            rw [hg] at h1
            have h1 : PsC (cx w0 ρ s w) e.2 [v] := h1
            have hone := h1.one v (by simp)
            have : v.cells.toList = [v] := by cases v <;> first | rfl | cases hone
            rw [this] at hrd
            exact hrd
        · cases hr
      · cases hr
  | [], _ :: _, _, _, _, hr, _ => by cases hr
  | _ :: _, [], _, _, _, hr, _ => by cases hr
theorem rowOf_c {w0 : Base} {ρ : Nat → Value} {s : St} {a : Act} {w : World} (h : Ok w0 ρ s a w) (hold : ∀ b, ¬ w0.old b → w0.w.heap.size ≤ b) {t : Ty} {S : Nat → Prop} {p : PV} {v : Value} {xs : List t.D} (hS : ∀ b, b < w.heap.size → w0.S b → S b ∨ (w0.w.heap.size ≤ b ∧ b < w.heap.size)) (hr : rowOf s t p = some xs)
    (hp : PVc (cx w0 ρ s w) p [v]) : FreshV S w0.w.heap.size w t v xs := by
  unfold rowOf at hr
  split at hr
  · rename_i k
    split at hr
    · rename_i u ys hk
      obtain ⟨e2, he2⟩ := castD_eq hr
      injection e2 with e2
      subst e2
      have he2 : ys = xs := he2
      subst he2
      obtain ⟨_, h1, _⟩ := hp
      have h1 : [v] = [ρ k] := h1
      have h1 : v = ρ k := by simpa using h1
      subst h1
      rcases h.heap k _ hk with ⟨h2, rfl⟩ | ⟨b, q, cp, cur, e', h2, hh, h3, h4, h5, h6⟩
      · exact .inl ⟨h2, rfl⟩
      · exact .inr ⟨b, q, cp, cur, e', h2, (h.fresh k _ b hk (by rw [show ρ k = _ from h2]; rfl)).imp (hold b) id, hh, h3, h4, h5, fun i x hi => Rd.mono (fun c hc => ⟨⟨fun e => hc.2.1 k _ hk (by rw [show ρ k = _ from h2, e]; rfl), hS c hc.1 hc.2.2⟩, rfl⟩) (h6 i x hi)⟩
    · cases hr
  · simp only [Option.some.injEq] at hr
    subst hr
    have h1 : v = .slice none 0 0 := by simpa using hp.1
    exact .inl ⟨h1, rfl⟩
  · cases hr
theorem rdOwn_c {w0 : Base} {ρ : Nat → Value} {s : St} {a : Act} {w : World} (h : Ok w0 ρ s a w) (hold : ∀ b, ¬ w0.old b → w0.w.heap.size ≤ b) {S : Nat → Prop} (hS : ∀ b, b < w.heap.size → w0.S b → S b ∨ (w0.w.heap.size ≤ b ∧ b < w.heap.size)) {rs : List Ty} {sv : SV} {v : Value} {x : HL rs} (hok : ownOk rs = true) (hr : rdOwn s rs sv = some x)
    (hv : SVc (cx w0 ρ s w) sv v) : OwnV S w0.w.heap.size w rs v x := by
  unfold rdOwn at hr
  split at hr
  · rename_i t p
    split at hr
    · rename_i y hy
      simp only [Option.some.injEq] at hr
      subst hr
      have hpa : p.agg = false ∧ p ≠ .any := by
        unfold rowOf at hy
        cases p <;> simp_all [PV.agg]
      exact rowOf_c h hold hS hy (SVc.one1 hpa.1 hpa.2 hv)
    · cases hr
  · rename_i t u r p es
    cases hro : restOkE p es with
    | false => rw [hro] at hr; cases hr
    | true =>
    rw [hro] at hr
    simp only [cond_true] at hr
    split at hr
    · rename_i y z hy hz
      simp only [Option.some.injEq] at hr
      subst hr
      obtain ⟨vs, rfl, v0, r0, e, h1, h2⟩ := hv
      have e' : vs = (v0 :: r0).toArray := by apply Array.ext'; simpa using e
      subst e'
      have hpv : PVc (cx w0 ρ s w) p [v0] := by
        obtain ⟨l, m, e1, e2, e3⟩ := h1
        have e3 : m = [] := e3
        subst e3
        rw [List.append_nil] at e1
        rw [e1]; exact e2
      have hblk : (∃ k t' xs', p = .row k ∧ v0 = ρ k ∧ s.hp k = some (.row t' xs')) ∨ blkOf v0 = none := by
        unfold rowOf at hy
        split at hy
        · rename_i k
          split at hy
          · rename_i t' xs' hk
            have h3 : [v0] = [ρ k] := hpv.2.1
            injection h3 with h3
            exact .inl ⟨k, t', xs', rfl, h3, hk⟩
          · cases hy
        · have h3 : [v0] = [.slice none 0 0] := hpv.1
          injection h3 with h3
          exact .inr (by rw [h3]; rfl)
        · cases hy
      refine ⟨v0, r0, rfl, rowOf_c h hold hS hy hpv, rdGo_c2 h (fun b hb => ⟨fun e => ?_, hS b hb.1 hb.2.2⟩) (fun j he b hne hj e => ⟨fun e2 => ?_, .inr ((h.fresh j he b hj e).imp (hold b) id)⟩) hro hz h2⟩
      · rcases hblk with ⟨k, t', xs', _, e2, hk⟩ | hn
        · rw [e2] at e
          exact hb.2.1 k _ hk e
        · rw [hn] at e; cases e
      · rcases hblk with ⟨k, t', xs', e3, e4, hk⟩ | hn
        · rw [e4] at e2
          exact h.apart j k he _ b (hne k e3) hj hk e e2
        · rw [hn] at e2; cases e2
    · cases hr
  · cases hr

/-- A FUNCTION KEEPS ITS CONTRACT where the executor's condition holds at all arguments. -/
theorem ctr_of_vc {n g : Nat} {fn : Func} {c : Ctr} {X : HL c.as → Fx} (hX : ∀ x, FxAll P (X x)) (hf : P.funcs[g]? = some fn) (hname : (fn.name == "runtime.NumGoroutine") = false) (hbody : fn.body.isNone = false) (_hn : c.as.length ≤ fn.ntmps)
    (hvc : ∀ x, c.pre x → LensL c.as x → vc (X x) n g fn c x) : CtrOk P g c := by
  refine ⟨⟨fn, hf, hname, hbody⟩, fun S w args x hS hgl hargs hpre => ?_⟩
  have hv := hvc x hpre hargs.lens
  have h := hX x
  unfold vc at hv
  split at hv
  · rename_i b hb
    let w0 : Base := { w := w, old := fun b => b < w.heap.size, oldlt := fun _ hb => hb, S := fun b => S b ∨ w.heap.size ≤ b, all := fun b hb => .inr (by omega), bv := [], gl := hgl, glold := fun q hq => (hgl q hq).1 }
    have hk : Keeps S w (Free w0 (fun _ => undef) (start fn.ntmps (argsV c.as x)).hp w) w := fun b hb => ⟨⟨hS b hb, fun k he hk => (by cases hk), .inl hb⟩, rfl⟩
    have hargs' : argsC (cx w0 (fun _ => undef) (start fn.ntmps (argsV c.as x)) w) (argsV c.as x) args.toList := argsV_c (hargs.mono hk)
    have hal : (argsV c.as x).length = args.size := by simpa using (argsC_get hargs').1
    have hok : Ok w0 (fun _ => undef) (start fn.ntmps (argsV c.as x)) { tmps := args ++ Array.replicate (fn.ntmps - args.size) undef, defers := [] } w :=
      { defers := rfl, below := BelowS.refl _ _, len := by simp [start, pad_length]; omega, frame := fun i => enter_frame hargs' i,
        back := fun i => by show SVc _ (lget [] i) _; unfold lget; cases i <;> trivial
        heap := fun k he hk => (by cases hk), used := fun k he hk => (by cases hk), fresh := fun k he b hk => (by cases hk), apart := fun k k' he he' b _ hk => (by cases hk) }
    have hcode := code_sound (f := g) (w0 := w0) h.ok (call_sound h n) ⟨fun k' g' c' hc' args' s' K' hh => by rw [call_some hc']; exact hh, fun k' g' c' args' l' hc' hsp' s' K' hh => by rw [call_split hc' hsp']; exact hh⟩ b _ _ hv _ _ w hok
    refine calls_of_wp hf hb (wp_mono hcode fun e a' w' hq => ?_)
    have fin : ∀ ρ' s', Ok w0 ρ' s' a' w' → (match resS (X x).E s' fn.results.toList with
        | some v => (match (bif c.own then (bif ownOk c.rs then rdOwn s' c.rs v else none) else rdRes s' c.rs v) with
          | some y => eqHL c.rs y (c.f x)
          | none => False)
        | none => False) → a'.defers = [] ∧ ∃ v, (results fn a'.tmps).run P w' = .ok v w' ∧ ∃ v2, Ending.returned v = Ending.returned v2 ∧
          (match c.own with
            | true => OwnV S w.heap.size w' c.rs v2 (c.f x)
            | false => ResV (fun b => S b ∨ (w.heap.size ≤ b ∧ b < w'.heap.size)) w' c.rs v2 (c.f x)) ∧ Below w.heap.size w w' := fun ρ' s' ho hr => by
      split at hr
      · rename_i sv hsv
        split at hr
        · rename_i y hy
          have hyx := eqHL_eq hr
          subst hyx
          obtain ⟨v, h1, h2⟩ := resS_c (P := P) h.ok.env ho hsv
          refine ⟨ho.defers, v, h1, v, rfl, ?_, ho.below.toB fun _ hb => hb⟩
          cases hown : c.own with
          | true =>
            rw [hown] at hy
            simp only [cond_true] at hy ⊢
            cases hg : ownOk c.rs with
            | false => rw [hg] at hy; cases hy
            | true => rw [hg] at hy; exact rdOwn_c (S := S) ho (fun b hb => Nat.le_of_not_lt hb) (fun b hb hb2 => hb2.imp id (fun q => ⟨q, hb⟩)) hg hy h2
          | false =>
            rw [hown] at hy
            simp only [cond_false] at hy ⊢
            refine rdRes_c ho (fun b hb hb2 => ?_) hy h2
            rcases hb2 with hb2 | hb2
            · exact .inl hb2
            · exact .inr ⟨hb2, hb⟩
        · exact hr.elim
      · exact hr.elim
    cases e with
    | normal => obtain ⟨ρ', s', ho, hr⟩ := hq; exact fin ρ' s' ho hr
    | ret => obtain ⟨ρ', s', ho, hr⟩ := hq; exact fin ρ' s' ho hr
    | exit id => obtain ⟨ρ', s', ho, hr⟩ := hq; exact hr.elim
    | goto l => exact hq.elim
    | panic c => exact hq.elim
    | outgrown => exact hq.elim
  · exact hv.elim
theorem ctrF_of_vc {n g hh : Nat} {fn : Func} {c : Ctr} {X : HL c.as → Fx} (hX : ∀ x, FxAll P (X x)) (hf : P.funcs[g]? = some fn) (hname : (fn.name == "runtime.NumGoroutine") = false) (hbody : fn.body.isNone = false) (_hn : c.as.length + 1 ≤ fn.ntmps)
    (hvc : ∀ x, c.pre x → LensL c.as x → vcF (X x) n g hh fn c x) : CtrOkF P g hh c := by
  refine ⟨⟨fn, hf, hname, hbody⟩, fun S w args x hS hgl hargs hpre => ?_⟩
  have hv := hvc x hpre hargs.lens
  have h := hX x
  unfold vcF at hv
  split at hv
  · rename_i b hb
    let w0 : Base := { w := w, old := fun b => b < w.heap.size, oldlt := fun _ hb => hb, S := fun b => S b ∨ w.heap.size ≤ b, all := fun b hb => .inr (by omega), bv := [], gl := hgl, glold := fun q hq => (hgl q hq).1 }
    have hk : Keeps S w (Free w0 (fun _ => undef) (start fn.ntmps (argsV c.as x ++ [SV.one (.con (.func (.func hh) #[] #[]))])).hp w) w := fun b hb => ⟨⟨hS b hb, fun k he hk => (by cases hk), .inl hb⟩, rfl⟩
    have hargs' : argsC (cx w0 (fun _ => undef) (start fn.ntmps (argsV c.as x ++ [SV.one (.con (.func (.func hh) #[] #[]))])) w) (argsV c.as x ++ [SV.one (.con (.func (.func hh) #[] #[]))]) (args ++ #[Value.func (.func hh) #[] #[]]).toList := by
      rw [Array.toList_append]
      exact argsC_append (argsV_c (hargs.mono hk)) ⟨SVc.of1 (p := .con (.func (.func hh) #[] #[])) rfl ⟨rfl, rfl⟩, trivial⟩
    have hal : (argsV c.as x).length = args.size := by have := (argsC_get hargs').1; simpa using this
    have hok : Ok w0 (fun _ => undef) (start fn.ntmps (argsV c.as x ++ [SV.one (.con (.func (.func hh) #[] #[]))])) { tmps := (args ++ #[Value.func (.func hh) #[] #[]]) ++ Array.replicate (fn.ntmps - (args ++ #[Value.func (.func hh) #[] #[]]).size) undef, defers := [] } w :=
      { defers := rfl, below := BelowS.refl _ _, len := by simp [start, pad_length]; omega, frame := fun i => enter_frame hargs' i,
        back := fun i => by show SVc _ (lget [] i) _; unfold lget; cases i <;> trivial
        heap := fun k he hk => (by cases hk), used := fun k he hk => (by cases hk), fresh := fun k he b hk => (by cases hk), apart := fun k k' he he' b _ hk => (by cases hk) }
    have hcode := code_sound (f := g) (w0 := w0) h.ok (call_sound h n) ⟨fun k' g' c' hc' args' s' K' hh => by rw [call_some hc']; exact hh, fun k' g' c' args' l' hc' hsp' s' K' hh => by rw [call_split hc' hsp']; exact hh⟩ b _ _ hv _ _ w hok
    refine calls_of_wp hf hb (wp_mono hcode fun e a' w' hq => ?_)
    have fin : ∀ ρ' s', Ok w0 ρ' s' a' w' → (match resS (X x).E s' fn.results.toList with
        | some v => (match (bif c.own then (bif ownOk c.rs then rdOwn s' c.rs v else none) else rdRes s' c.rs v) with
          | some y => eqHL c.rs y (c.f x)
          | none => False)
        | none => False) → a'.defers = [] ∧ ∃ v, (results fn a'.tmps).run P w' = .ok v w' ∧ ∃ v2, Ending.returned v = Ending.returned v2 ∧
          (match c.own with
            | true => OwnV S w.heap.size w' c.rs v2 (c.f x)
            | false => ResV (fun b => S b ∨ (w.heap.size ≤ b ∧ b < w'.heap.size)) w' c.rs v2 (c.f x)) ∧ Below w.heap.size w w' := fun ρ' s' ho hr => by
      split at hr
      · rename_i sv hsv
        split at hr
        · rename_i y hy
          have hyx := eqHL_eq hr
          subst hyx
          obtain ⟨v, h1, h2⟩ := resS_c (P := P) h.ok.env ho hsv
          refine ⟨ho.defers, v, h1, v, rfl, ?_, ho.below.toB fun _ hb => hb⟩
          cases hown : c.own with
          | true =>
            rw [hown] at hy
            simp only [cond_true] at hy ⊢
            cases hg : ownOk c.rs with
            | false => rw [hg] at hy; cases hy
            | true => rw [hg] at hy; exact rdOwn_c (S := S) ho (fun b hb => Nat.le_of_not_lt hb) (fun b hb hb2 => hb2.imp id (fun q => ⟨q, hb⟩)) hg hy h2
          | false =>
            rw [hown] at hy
            simp only [cond_false] at hy ⊢
            refine rdRes_c ho (fun b hb hb2 => ?_) hy h2
            rcases hb2 with hb2 | hb2
            · exact .inl hb2
            · exact .inr ⟨hb2, hb⟩
        · exact hr.elim
      · exact hr.elim
    cases e with
    | normal => obtain ⟨ρ', s', ho, hr⟩ := hq; exact fin ρ' s' ho hr
    | ret => obtain ⟨ρ', s', ho, hr⟩ := hq; exact fin ρ' s' ho hr
    | exit id => obtain ⟨ρ', s', ho, hr⟩ := hq; exact hr.elim
    | goto l => exact hq.elim
    | panic c => exact hq.elim
    | outgrown => exact hq.elim
  · exact hv.elim
end
end Go.Sx
