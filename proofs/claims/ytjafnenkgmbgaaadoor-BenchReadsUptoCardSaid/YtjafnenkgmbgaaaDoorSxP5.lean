/-
  Sx: a verified executor over the loaded code, part 5 of 5.
-/
import Derived.Test.YtjafnenkgmbgaaaDoorSxP4
import Derived.ProofKit
import Derived.SizedLaws
import Derived.Deep.Slices
import Derived.Carry
import Derived.Handed
import Derived.LaidLaws
import Derived.LaidHandle
import Derived.MakeChecks
import Derived.Lib.LaidTab
import Derived.JoinedOf
import Derived.Stop.LaidErr
import Derived.Deep.DeepHandedRow
/-
  Sx, part R: the code, calls and contracts.
-/
namespace Go.Sx
open Go.RowKit

def Post (w0 : Base) (Q : AEx → St → Prop) : Exit → Act → World → Prop
  | .normal, a, w => ∃ ρ s, Ok w0 ρ s a w ∧ Q .normal s
  | .exit id, a, w => ∃ ρ s, Ok w0 ρ s a w ∧ Q (.exit id) s
  | .ret, a, w => ∃ ρ s, Ok w0 ρ s a w ∧ Q .ret s
  | _, _, _ => False

section
variable {P : Program} {X : Fx} {callK : Nat → Nat → List SV → St → (SV → St → Prop) → Prop} {f : Nat} {w0 : Base}

theorem region_text {m : Bool} {sk : Nat → Bool} {id : Nat} {os : Array Oper} {s : St} {Q : AEx → St → Prop} {ρ : Nat → Value} {a : Act} {w : World} (hX : FxOk P X) (hcall : CallOk P callK) (hK : CtrBy X callK)
    (h : ops X callK f os.toList s.nx 0 os.toList { s with nx := s.nx + os.toList.length } (fun s => Q .normal (bif m then rootAll sk s else s))) (hok : Ok w0 ρ s a w) : (Code.region id os false).wp P (Post w0 Q) a w := by
  refine wp_region_list ?_
  have hok' : Ok w0 ρ { s with nx := s.nx + os.toList.length } a w := { hok with }
  have := ops_sound (w0 := w0) (Q := Post w0 Q) hX hcall hK (fun ρ' s' a' w' ho hq => by
    cases m with
    | true => exact ⟨ρ', _, ho.rootAll, hq⟩
    | false => exact ⟨ρ', s', ho, hq⟩) os.toList 0 _ ρ a w h hok'
  simpa using this

theorem into_ex {an : Ann} {s0 s : St} {R : an.G → Prop} {ρ : Nat → Value} {a : Act} {w : World} (hok : Ok w0 ρ s a w) (h : into an s0 s R) : ∃ g, (an.ok s0 g ∧ an.lens g) ∧ R g ∧ le s (an.inv s0 g) (Inv.st s0 (an.inv s0 g)) := by
  unfold into at h
  split at h
  · rename_i g hg
    exact ⟨g, ⟨h.1.1, an.told w0 ρ s0 s a w g hok hg⟩, h.1.2, h.2⟩
  · obtain ⟨g, ⟨h1, h2⟩, h3⟩ := h
    exact ⟨g, h1, h2, h3⟩
theorem intoAny_ex {s0 s : St} {ρ : Nat → Value} {a : Act} {w : World} {k : St → Prop} (hok : Ok w0 ρ s a w) : ∀ {ans : List Ann}, intoAny s0 s ans → fromAll s0 k ans →
    ∃ (an : Ann) (g : an.G), an.ok s0 g ∧ le s (an.inv s0 g) (Inv.st s0 (an.inv s0 g)) ∧ k (Inv.st s0 (an.inv s0 g))
  | [], h, _ => h.elim
  | [an], h, hf => by
    obtain ⟨g, ⟨hg, hlg⟩, _, hle⟩ := into_ex hok h
    exact ⟨an, g, hg, hle, hf g hg hlg⟩
  | an :: an2 :: r, h, hf => by
    rcases h with h | h
    · obtain ⟨g, ⟨hg, hlg⟩, _, hle⟩ := into_ex hok h
      exact ⟨an, g, hg, hle, hf.1 g hg hlg⟩
    · exact intoAny_ex hok h hf.2
theorem code_sound (hX : FxOk P X) (hcall : CallOk P callK) (hK : CtrBy X callK) : ∀ (c : Code) (s : St) (Q : AEx → St → Prop), code X callK f c s Q → ∀ ρ a w, Ok w0 ρ s a w → c.wp P (Post w0 Q) a w
  | .skip, s, Q, h, ρ, a, w, hok => wp_skip ⟨ρ, s, hok, h⟩
  | .label _, s, Q, h, ρ, a, w, hok => wp_label ⟨ρ, s, hok, h⟩
  | .exit id, s, Q, h, ρ, a, w, hok => wp_exit ⟨ρ, s, hok, h⟩
  | .ret, s, Q, h, ρ, a, w, hok => wp_ret ⟨ρ, s, hok, h⟩
  | .region id os draw, s, Q, h, ρ, a, w, hok => by
    unfold code at h
    cases draw with
    | true =>
      simp only [cond_true] at h
      cases hmark : X.wr f (9000000 + id) with
      | true =>
        rw [hmark] at h
        simp only [cond_true] at h
        exact drawnB_sound (Q := Post w0 Q) hX hcall hK (fun ρ' s' a' w' ho hq => ⟨ρ', s', ho, hq⟩) h hok
      | false =>
      rw [hmark] at h
      simp only [cond_false] at h
      have hok' : Ok w0 ρ (bif X.wr f (2000000 + id) then frzAll s (rowNames s s.nx) else s) a w := by
        cases X.wr f (2000000 + id) with
        | true => exact Ok.frzAll _ hok
        | false => exact hok
      refine drawn_sound (Q := Post w0 Q) hX hcall hK (fun ρ' s' a' w' ho hq => ?_) h hok'
      cases hm : X.wr f (4000000 + id) with
      | true => rw [hm] at hq; exact ⟨ρ', _, ho.rootAll, hq⟩
      | false => rw [hm] at hq; exact ⟨ρ', s', ho, hq⟩
    | false =>
      simp only [cond_false] at h
      exact region_text hX hcall hK h hok
  | .seq x y, s, Q, h, ρ, a, w, hok => by
    unfold code at h
    split at h
    · refine wp_seq (wp_mono (code_sound hX hcall hK x s _ h ρ a w hok) fun e a' w' hq => ?_)
      cases e with
      | normal => obtain ⟨ρ', s', ho, hq⟩ := hq; exact code_sound hX hcall hK y s' Q hq ρ' a' w' ho
      | exit id => exact hq
      | ret => exact hq
      | goto l => exact hq
      | panic c => exact hq
      | outgrown => exact hq
    · rename_i an r _
      obtain ⟨h1, h2⟩ := h
      refine wp_seq (wp_mono (code_sound hX hcall hK x s _ h1 ρ a w hok) fun e a' w' hq => ?_)
      cases e with
      | normal =>
        obtain ⟨ρ', s', ho, hq⟩ := hq
        obtain ⟨an', g, hg, hle, hy⟩ := intoAny_ex ho hq h2
        obtain ⟨ρ2, ho2⟩ := le_ok ho hle
        exact code_sound hX hcall hK y _ Q hy ρ2 a' w' ho2
      | exit id => exact hq
      | ret => exact hq
      | goto l => exact hq
      | panic c => exact hq
      | outgrown => exact hq
  | .cond c x y, s, Q, h, ρ, a, w, hok => by
    unfold code at h
    have hv := hok.ev c
    split at h
    · rename_i b hb
      have eb := asBool_c hv (b := b) (by rw [hb]; rfl)
      cases b with
      | true => exact wp_cond_true eb (code_sound hX hcall hK x s Q h ρ a w hok)
      | false => exact wp_cond_false eb (code_sound hX hcall hK y s Q h ρ a w hok)
    · rename_i b hb
      have eb := asBool_c hv (b := b) (by rw [hb]; rfl)
      split at h
      · rename_i d
        cases b with
        | true => exact wp_cond_true eb (code_sound hX hcall hK x _ Q (h.1 rfl) ρ a w (hok.tell d (by rw [show a.tmps.getD d undef = _ from eb]; exact sv_lit true)))
        | false => exact wp_cond_false eb (code_sound hX hcall hK y _ Q (h.2 rfl) ρ a w (hok.tell d (by rw [show a.tmps.getD d undef = _ from eb]; exact sv_lit false)))
      · exact h.elim
    · exact h.elim
  | .block id c, s, Q, h, ρ, a, w, hok => by
    unfold code at h
    refine wp_block (wp_mono (code_sound hX hcall hK c s _ h ρ a w hok) fun e a' w' hq => ?_)
    cases e with
    | normal => exact hq
    | exit id' =>
      obtain ⟨ρ', s', ho, hq⟩ := hq
      simp only [Exit.inBlock]
      by_cases e : id' = id
      · subst e
        rw [if_pos rfl]
        simp only [show Nat.beq id' id' = true from by simp, cond_true] at hq
        exact ⟨ρ', s', ho, hq⟩
      · rw [if_neg e]
        simp only [beq_ne e, cond_false] at hq
        exact ⟨ρ', s', ho, hq⟩
    | ret => exact hq
    | goto l => exact hq
    | panic c => exact hq
    | outgrown => exact hq
  | .loop c, s, Q, h, ρ, a, w, hok => by
    unfold code at h
    split at h
    · exact h.elim
    · rename_i an _
      obtain ⟨h0, hround⟩ := h
      obtain ⟨g0, hg0, _, hle0⟩ := into_ex hok h0
      obtain ⟨ρ0, hok0⟩ := le_ok hok hle0
      refine wp_loop_ghost (fun n a w => ∃ g ρ, an.m s g = n ∧ (an.ok s g ∧ an.lens g) ∧ Ok w0 ρ (Inv.st s (an.inv s g)) a w) (an.m s g0) ⟨g0, ρ0, rfl, hg0, hok0⟩ ?_
      rintro n a1 w1 ⟨g, ρ1, rfl, hg, hok1⟩
      refine wp_mono (code_sound hX hcall hK c _ _ (hround g hg.1 hg.2) ρ1 a1 w1 hok1) fun e a' w' hq => ?_
      cases e with
      | normal =>
        obtain ⟨ρ', s', ho, hq⟩ := hq
        obtain ⟨g', hg', hm, hle⟩ := into_ex ho hq
        obtain ⟨ρ2, ho2⟩ := le_ok ho hle
        exact ⟨an.m s g', hm, g', ρ2, rfl, hg', ho2⟩
      | exit id => exact hq
      | ret => exact hq
      | goto l => exact hq
      | panic c => exact hq
      | outgrown => exact hq
  | .rangeFunc _ _ _ _, _, _, h, _, _, _, _ => h.elim
  | .scope _, _, _, h, _, _, _, _ => h.elim
  | .goto _, _, _, h, _, _, _, _ => h.elim
  | .refuse _, _, _, h, _, _, _, _ => h.elim
end

def RdV (S : Nat → Prop) (w : World) (t : Ty) (v : Value) (x : t.D) : Prop :=
  match t.agg with
  | true => ∃ cs, v = .agg cs ∧ Rd S w t cs.toList x
  | false => Rd S w t [v] x
def RdVs (S : Nat → Prop) (w : World) : (ts : List Ty) → List Value → HL ts → Prop
  | [], [], _ => True
  | t :: ts, v :: vs, x => RdV S w t v x.1 ∧ RdVs S w ts vs x.2
  | _, _, _ => False
def ResV (S : Nat → Prop) (w : World) : (ts : List Ty) → Value → HL ts → Prop
  | [t], v, x => RdV S w t v x.1
  | ts, v, x => ∃ vs, v = .tuple vs ∧ RdVs S w ts vs.toList x
def FreshV (S : Nat → Prop) (B : Nat) (w : World) (t : Ty) (v : Value) (xs : List t.D) : Prop :=
  (v = .slice none 0 0 ∧ xs = []) ∨
    ∃ b o cp cur e, v = .slice (some ⟨b, o, none⟩) xs.length cp ∧ (B ≤ b ∧ b < w.heap.size) ∧ w.heap[b]? = some (.cells cur e (0, 0)) ∧ xs.length ≤ cp ∧ cp ≤ maxLen ∧
      o + cp * t.size ≤ cur.size ∧ ∀ (i : Nat) x, xs[i]? = some x → Rd (fun c => c ≠ b ∧ (S c ∨ (B ≤ c ∧ c < w.heap.size))) w t ((cur.toList.drop (o + i * t.size)).take t.size) x
def OwnV (S : Nat → Prop) (B : Nat) (w : World) : (rs : List Ty) → Value → HL rs → Prop
  | [.sl t], v, x => FreshV S B w t v x.1
  | .sl t :: u :: r, v, x => ∃ v0 r0, v = .tuple (v0 :: r0).toArray ∧ FreshV S B w t v0 x.1 ∧ RdVs (fun c => blkOf v0 ≠ some c ∧ (S c ∨ (B ≤ c ∧ c < w.heap.size))) w (u :: r) r0 x.2
  | _, _, _ => False
def CtrOk (P : Program) (g : Nat) (c : Ctr) : Prop :=
  Callable P g ∧ ∀ (S : Nat → Prop) (w : World) (args : Array Value) (x : HL c.as), (∀ b, S b → b < w.heap.size) → GlOk w → RdVs S w c.as args.toList x → c.pre x →
    Calls P g args w (fun e w' => ∃ v, e = .returned v ∧ (match c.own with
      | true => OwnV S w.heap.size w' c.rs v (c.f x)
      | false => ResV (fun b => S b ∨ (w.heap.size ≤ b ∧ b < w'.heap.size)) w' c.rs v (c.f x)) ∧ Below w.heap.size w w')

def CtrOkF (P : Program) (g h : Nat) (c : Ctr) : Prop :=
  Callable P g ∧ ∀ (S : Nat → Prop) (w : World) (args : Array Value) (x : HL c.as), (∀ b, S b → b < w.heap.size) → GlOk w → RdVs S w c.as args.toList x → c.pre x →
    Calls P g (args ++ #[.func (.func h) #[] #[]]) w (fun e w' => ∃ v, e = .returned v ∧ (match c.own with
      | true => OwnV S w.heap.size w' c.rs v (c.f x)
      | false => ResV (fun b => S b ∨ (w.heap.size ≤ b ∧ b < w'.heap.size)) w' c.rs v (c.f x)) ∧ Below w.heap.size w w')

def CtrOkN (P : Program) (g : Nat) (c : Ctr) : Prop :=
  Callable P g ∧ ∀ (S : Nat → Prop) (w : World) (args : List Value) (x : HL c.as), (∀ b, S b → b < w.heap.size) → GlOk w → RdVs S w c.as args x → c.pre x →
    Calls P g (.slice none 0 0 :: args).toArray w (fun e w' => ∃ v, e = .returned v ∧ (match c.own with
      | true => OwnV S w.heap.size w' c.rs v (c.f x)
      | false => ResV (fun b => S b ∨ (w.heap.size ≤ b ∧ b < w'.heap.size)) w' c.rs v (c.f x)) ∧ Below w.heap.size w w')
def CtrOkC (P : Program) (g h : Nat) (fs : List Nat) (c : Ctr) : Prop :=
  Callable P g ∧ ∀ (S : Nat → Prop) (w : World) (b : Nat) (e : TypeId) (v : Value) (x : HL c.as), (∀ b, S b → b < w.heap.size) → GlOk w → w.heap[b]? = some (.cells #[v] e (0, 0)) → RdVs S w c.as [v] x → c.pre x →
    Calls P g (.func (.func h) #[] #[.pointer (some ⟨b, 0, none⟩)] :: fs.map fun f => .func (.func f) #[] #[]).toArray w (fun e w' => ∃ v, e = .returned v ∧ (match c.own with
      | true => OwnV S w.heap.size w' c.rs v (c.f x)
      | false => ResV (fun b => S b ∨ (w.heap.size ≤ b ∧ b < w'.heap.size)) w' c.rs v (c.f x)) ∧ Below w.heap.size w w')

theorem RdV.mono {S S' : Nat → Prop} {w w' : World} (k : Keeps S w S' w') {t : Ty} {v : Value} {x : t.D} (h : RdV S w t v x) : RdV S' w' t v x := by
  unfold RdV at h ⊢
  cases hg : t.agg <;> rw [hg] at h
  · exact Rd.mono k h
  · obtain ⟨cs, e, h⟩ := h; exact ⟨cs, e, Rd.mono k h⟩
theorem RdVs.mono {S S' : Nat → Prop} {w w' : World} (k : Keeps S w S' w') : ∀ {ts : List Ty} {vs : List Value} {x : HL ts}, RdVs S w ts vs x → RdVs S' w' ts vs x
  | [], [], _, _ => trivial
  | _ :: _, _ :: _, _, h => ⟨h.1.mono k, RdVs.mono k h.2⟩
  | [], _ :: _, _, h => h.elim
  | _ :: _, [], _, h => h.elim
theorem RdV.sv {c : Cx} {t : Ty} {v : Value} {x : t.D} (h : RdV c.S c.w t v x) : SVc c (.one (.d t x)) v := by
  show aggC c t.agg [.d t x] v
  unfold RdV at h
  cases hg : t.agg <;> rw [hg] at h
  · exact PsC.single h
  · obtain ⟨cs, e, h⟩ := h
    exact ⟨cs, e, PsC.single (p := .d t x) h⟩

theorem Rd.any {S S' : Nat → Prop} {w w' : World} : ∀ {t : Ty} {cs : List Value} {x : t.D}, noSl t = true → Rd S w t cs x → Rd S' w' t cs x
  | .int _, _, _, _, h => h
  | .bool, _, _, _, h => h
  | .str, _, _, _, h => h
  | .sl _, _, _, hn, _ => by cases hn
  | .ref _, _, _, _, h => h
  | .err, _, _, _, h => h
  | .mp _ _, _, _, hn, _ => by cases hn
  | .arr n t, _, _, hn, h => ⟨h.1, h.2.1, fun i x hi => Rd.any (t := t) hn (h.2.2 i x hi)⟩
  | .pair a b, _, _, hn, h => by
    simp only [noSl, Bool.and_eq_true] at hn
    obtain ⟨l, m, e, h1, h2⟩ := h
    exact ⟨l, m, e, h1.any hn.1, h2.any hn.2⟩
theorem RdV.any {S S' : Nat → Prop} {w w' : World} {t : Ty} {v : Value} {x : t.D} (hn : noSl t = true) (h : RdV S w t v x) : RdV S' w' t v x := by
  unfold RdV at h ⊢
  cases hg : t.agg <;> rw [hg] at h
  · exact Rd.any hn h
  · obtain ⟨cs, e, h⟩ := h; exact ⟨cs, e, Rd.any hn h⟩
theorem RdVs.any {S S' : Nat → Prop} {w w' : World} : ∀ {ts : List Ty} {vs : List Value} {x : HL ts}, ts.all noSl = true → RdVs S w ts vs x → RdVs S' w' ts vs x
  | [], [], _, _, _ => trivial
  | _ :: _, _ :: _, _, hn, h => by
    simp only [List.all_cons, Bool.and_eq_true] at hn
    exact ⟨h.1.any hn.1, RdVs.any hn.2 h.2⟩
  | [], _ :: _, _, _, h => h.elim
  | _ :: _, [], _, _, h => h.elim
theorem ResV.any {S S' : Nat → Prop} {w w' : World} {ts : List Ty} {v : Value} {x : HL ts} (hn : ts.all noSl = true) (h : ResV S w ts v x) : ResV S' w' ts v x := by
  match ts, x, h with
  | [], x, ⟨vs, e, h⟩ => exact ⟨vs, e, h.any hn⟩
  | [t], x, h =>
    simp only [List.all_cons, Bool.and_eq_true] at hn
    exact RdV.any hn.1 h
  | t :: u :: ts, x, ⟨vs, e, h⟩ => exact ⟨vs, e, h.any hn⟩
theorem ResV.mono {S S' : Nat → Prop} {w w' : World} (k : Keeps S w S' w') {ts : List Ty} {v : Value} {x : HL ts} (h : ResV S w ts v x) : ResV S' w' ts v x := by
  match ts, x, h with
  | [], x, ⟨vs, e, h⟩ => exact ⟨vs, e, h.mono k⟩
  | [t], x, h => exact RdV.mono k h
  | t :: u :: ts, x, ⟨vs, e, h⟩ => exact ⟨vs, e, h.mono k⟩
theorem RdVs.tup {c : Cx} : ∀ {ts : List Ty} {vs : List Value} {x : HL ts}, RdVs c.S c.w ts vs x → tupC c (tupR ts x) vs
  | [], [], _, _ => rfl
  | t :: _, v :: vs, x, h => by
    refine ⟨v, vs, rfl, ?_, RdVs.tup h.2⟩
    have h1 := h.1
    unfold RdV at h1
    show aggC c t.agg [.d t x.1] v
    cases hg : t.agg <;> rw [hg] at h1
    · exact PsC.single h1
    · obtain ⟨cs, e, h1⟩ := h1
      exact ⟨cs, e, PsC.single (p := .d t x.1) h1⟩
  | [], _ :: _, _, h => h.elim
  | _ :: _, [], _, h => h.elim
theorem ResV.sv {c : Cx} {ts : List Ty} {v : Value} {x : HL ts} (h : ResV c.S c.w ts v x) : SVc c (resR ts x) v := by
  match ts, x, h with
  | [], x, ⟨vs, e, h⟩ => exact ⟨vs, e, h.tup⟩
  | [t], x, h => exact RdV.sv h
  | t :: u :: ts, x, ⟨vs, e, h⟩ => exact ⟨vs, e, h.tup⟩

section
variable {w0 : Base} {w : World} {ρ : Nat → Value} {s : St} {a : Act}

theorem res_c {S : Nat → Prop} (h : Ok w0 ρ s a w) (hS : ∀ b, b < w.heap.size → w0.S b → S b) {p : PV} {l : List Value} (hp : PVc (cx w0 ρ s w) p l) : PVc ⟨ρ, s.us, S, w⟩ (PV.res s p) l := by
  have hle : (cx w0 ρ s w).le ⟨ρ, s.us, S, w⟩ := ⟨fun _ hk => hk, fun _ _ => rfl, fun b hb => ⟨hS b hb.1 hb.2.2, rfl⟩⟩
  have hmono := hp.mono hle
  cases p with
  | sub k k' sz x y =>
    simp only [PV.res]
    split
    · rename_i t xs hd
      obtain ⟨A, cp, h1, h2, h3, h4⟩ := slD_cS (v := ρ k') h (SVc.of1 rfl (by have := hp.2.2.1; rw [this] at hp; exact hp)) hd
      refine ⟨A, cp, by rw [hp.2.2.1]; exact congrArg (fun v => [v]) h1, h2, h3, fun hpos => ?_⟩
      obtain ⟨b, q, e1, e2, e3⟩ := h4 hpos
      refine ⟨b, q, e1, hS b e2.1 e2.2, fun i z hi => ?_⟩
      obtain ⟨l2, g1, g2⟩ := e3 i z hi
      exact ⟨l2, fun j v hv => by rw [← Nat.add_assoc]; exact g1 j v hv, Rd.mono hle.keep g2⟩
    · exact hmono
  | bsl k off n sz =>
    simp only [PV.res]
    split
    · rename_i t xs hd
      obtain ⟨_, b0, _, hl⟩ := id hp
      obtain ⟨A, cp, h1, h2, h3, h4⟩ := slD_cS h (SVc.of1 (v := .slice (some ⟨b0, off, none⟩) n n) rfl (by rw [hl] at hp; exact hp)) hd
      refine ⟨A, cp, by rw [hl, h1], h2, h3, fun hpos => ?_⟩
      obtain ⟨b, q, e1, e2, e3⟩ := h4 hpos
      refine ⟨b, q, e1, hS b e2.1 e2.2, fun i z hi => ?_⟩
      obtain ⟨l2, g1, g2⟩ := e3 i z hi
      exact ⟨l2, fun j v hv => by rw [← Nat.add_assoc]; exact g1 j v hv, Rd.mono hle.keep g2⟩
    · exact hmono
  | row k =>
    simp only [PV.res]
    split
    · rename_i t xs hk
      obtain ⟨_, hl, _⟩ := hp
      rcases h.heap k _ hk with ⟨h1, rfl⟩ | ⟨b, o, cp, cur, e, h1, h2, h3, h4, h5, h6⟩
      · exact ⟨none, 0, by rw [hl, h1]; rfl, Nat.le_refl _, by simp [maxLen], fun h => absurd h (by simp)⟩
      · have hfr := h.fresh k _ b hk (by rw [show ρ k = _ from h1]; rfl)
        refine ⟨_, cp, by rw [hl, h1], h3, h4, fun _ => ⟨b, o, rfl, hS b hfr.2 (w0.all b hfr.1), fun i x hx => ⟨_, fun j v hv => ?_, Rd.mono hle.keep (h6 i x hx)⟩⟩⟩
        have := At.of_block h2 (o + i * t.size) t.size j v hv
        rwa [Nat.add_assoc] at this
    · rename_i kk t xs hk
      obtain ⟨_, hl, _⟩ := hp
      obtain ⟨b, es, clock, h1, h2, h3, _⟩ := h.heap k _ hk
      have hfr := h.fresh k _ b hk (by rw [show ρ k = _ from h1]; rfl)
      have h3' := (MapC.keep (c' := ⟨ρ, s.us, S, w⟩) hle.keep h3).to
      exact .inr ⟨b, es, clock, by rw [hl, h1], hS b hfr.2 (w0.all b hfr.1), h2, h3'.1, h3'.2⟩
    · exact hmono
  | _ => exact hmono
theorem resPs_c {S : Nat → Prop} (h : Ok w0 ρ s a w) (hS : ∀ b, b < w.heap.size → w0.S b → S b) : ∀ {ps : List PV} {l : List Value}, PsC (cx w0 ρ s w) ps l → PsC ⟨ρ, s.us, S, w⟩ (ps.map (PV.res s)) l
  | [], _, hp => hp
  | _ :: _, _, ⟨l1, l2, e, h1, h2⟩ => ⟨l1, l2, e, res_c h hS h1, resPs_c h hS h2⟩

theorem notAgg_c {c : Cx} {x : SV} {v : Value} {ps : List PV} (h : SVc c x v) (hx : x.isAgg = false) (hps : x.parts = some ps) : v.cells.toList = [v] := by
  cases x with
  | agg ps => cases hx
  | tup es => cases hps
  | cnd _ _ => cases hps
  | one p =>
    have hn : p ≠ .any := fun e => by subst e; cases hps
    have h1 := SVc.one1 (p := p) hx hn h
    have := h1.one v (by simp)
    cases v <;> first | rfl | cases this

theorem rdArg_c {S : Nat → Prop} (h : Ok w0 ρ s a w) (hS : ∀ b, b < w.heap.size → w0.S b → S b) {bor : Bool} {t : Ty} {v : SV} {u : Value} {x : t.D} (hv : SVc (cx w0 ρ s w) v u)
    (hr : rdArg s bor t v = some x) : RdV (bif bor then S else Free w0 ρ s.hp w) w t u x := by
  unfold rdArg at hr
  split at hr
  · rename_i ps hps
    cases hx : Bool.xor v.isAgg t.agg with
    | true => rw [hx] at hr; cases hr
    | false =>
      rw [hx] at hr
      simp only [cond_false] at hr
      have hag : v.isAgg = t.agg := by cases e1 : v.isAgg <;> cases e2 : t.agg <;> rw [e1, e2] at hx <;> first | rfl | cases hx
      have hp := SVparts_c hv hps
      have hrd : Rd (bif bor then S else Free w0 ρ s.hp w) w t u.cells.toList x := by
        cases bor with
        | true => exact rdAll_c (c := ⟨ρ, s.us, S, w⟩) hr (resPs_c h hS hp)
        | false => exact rdAll_c (c := cx w0 ρ s w) hr hp
      unfold RdV
      cases hg : t.agg with
      | true =>
        obtain ⟨cs, e⟩ := isAgg_c hv (by rw [hag, hg])
        rw [e] at hrd
        exact ⟨cs, e, hrd⟩
      | false =>
        rw [notAgg_c hv (by rw [hag, hg]) hps] at hrd
        exact hrd
  · cases hr
theorem rdArgs_c {S : Nat → Prop} (h : Ok w0 ρ s a w) (hS : ∀ b, b < w.heap.size → w0.S b → S b) {bor : Bool} : ∀ {ts : List Ty} {vs : List SV} {us : List Value} {x : HL ts}, argsC (cx w0 ρ s w) vs us →
    rdArgs s bor ts vs = some x → RdVs (bif bor then S else Free w0 ρ s.hp w) w ts us x
  | [], [], [], _, _, _ => trivial
  | t :: ts, v :: vs, u :: us, x, ha, hr => by
    unfold rdArgs at hr
    split at hr
    · rename_i y hy
      split at hr
      · rename_i z hz
        injection hr with hr
        subst hr
        exact ⟨rdArg_c h hS ha.1 hy, rdArgs_c h hS ha.2 hz⟩
      · cases hr
    · cases hr
  | [], _ :: _, _, _, _, hr => by cases hr
  | _ :: _, [], _, _, _, hr => by cases hr
  | [], [], _ :: _, _, ha, _ => ha.elim
  | _ :: _, _ :: _, [], _, ha, _ => ha.elim
end

section
variable {P : Program} {X : Fx}

def PrcOk (P : Program) (g : Nat) (p : Prc) : Prop :=
  Callable P g ∧ ∀ (w0 : Base) (ρ : Nat → Value) (w : World) (vs : Array Value) (x : p.G), Ok w0 ρ (p.st x) { tmps := vs, defers := [] } w → p.pre x → p.lens x →
    Calls P g vs w (fun e w' => ∃ v ρ2, e = .returned v ∧ (∀ n, trkd (trks (p.inv x).heap) n = true → ρ2 n = ρ n) ∧ Ok w0 ρ2 (hpOf (p.inv (p.f x).1).heap) { tmps := #[], defers := [] } w' ∧ ResV (fun _ => True) w' p.rs v (p.f x).2)
def PrcOkO (P : Program) (g : Nat) (p : Prc) (n0 : Nat) : Prop :=
  Callable P g ∧ ∀ (w0 : Base) (ρ : Nat → Value) (w : World) (vs : Array Value) (x : p.G), Ok w0 ρ (p.st x) { tmps := vs, defers := [] } w → p.pre x → p.lens x →
    Calls P g vs w (fun e w' => ∃ ρ2, e = .returned (ρ2 n0) ∧ (∀ n, n ≠ n0 → trkd (trks (p.inv x).heap) n = true → ρ2 n = ρ n) ∧ (ρ2 n0).oneCell' = true ∧ Ok w0 ρ2 (hpOf (p.inv (p.f x).1).heap) { tmps := #[], defers := [] } w')
structure FxAll (P : Program) (X : Fx) : Prop where
  ok : FxOk P X
  ctr : ∀ g c, X.K g = some c → CtrOk P g c
  ctrF : ∀ g h c, X.KF g h = some c → CtrOkF P g h c
  ctrN : ∀ g c, X.KN g = some c → CtrOkN P g c
  ctrC : ∀ g h fs c, X.KC g h fs = some c → CtrOkC P g h fs c
  prc : ∀ g p, X.PR g = some p → PrcOk P g p
  po : ∀ g q, X.PO g = some q → PrcOkO P g q.1 q.2
  fn : ∀ g fn, X.fn g = some fn → P.funcs[g]? = some fn ∧ (fn.name == "runtime.NumGoroutine") = false

theorem free_new {S : Nat → Prop} {k : Nat} {v : Value} {s : St} {he : HE} {w0 : Base} {ρ : Nat → Value} {a : Act} {w w' : World} (h : Ok w0 ρ s a w) (hn : ∀ b, S b → Free w0 ρ s.hp w b) (hb : Below w.heap.size w w') {c : Nat}
    (hpl : he.pl = true) (hc : blkOf v ≠ some c) (hc2 : S c ∨ (w.heap.size ≤ c ∧ c < w'.heap.size)) : Free w0 (rset ρ k v) (s.new k he).hp w' c := by
  have hlt : c < w'.heap.size := by
    rcases hc2 with q | q
    · exact Nat.lt_of_lt_of_le (hn c q).1 hb.size
    · exact q.2
  refine ⟨hlt, fun k' he' hk' e2 => ?_, ?_⟩
  · by_cases ek : k' = k
    · subst ek
      rw [rset_same] at e2
      have : he = he' := by have := hk'; rw [show (s.new k' he).hp k' = some he from hset_same _ _ _] at this; injection this
      subst this
      exact hc ((Bk_pl hpl).1 e2)
    · have hk2 : s.hp k' = some he' := by
        have : hset s.hp k (some he) k' = some he' := hk'
        rwa [hset_other s.hp (some he) ek] at this
      rw [rset_other ρ v ek] at e2
      rcases hc2 with q | q
      · exact (hn c q).2.1 k' he' hk2 e2
      · have := (h.fresh k' he' c hk2 e2).2
        omega
  · rcases hc2 with q | q
    · exact (hn c q).2.2
    · exact w0.all c (h.newold q.1)
theorem own_new {S : Nat → Prop} {t : Ty} {xs : List t.D} {k : Nat} {v : Value} {s : St} {w0 : Base} {ρ : Nat → Value} {a : Act} {w w' : World} (h : Ok w0 ρ s a w) (hus : s.us k = false) (hn : noSl t = true ∨ ∀ b, S b → Free w0 ρ s.hp w b) (hb : Below w.heap.size w w')
    (hv : FreshV S w.heap.size w' t v xs) : Ok w0 (rset ρ k v) (s.new k (.row t xs)) a w' ∧ PVc (cx w0 (rset ρ k v) (s.new k (.row t xs)) w') (.row k) [v] := by
  have hone : v.oneCell' = true := by rcases hv with ⟨rfl, _⟩ | ⟨b, o, cp, cur, e, rfl, _⟩ <;> rfl
  refine ⟨h.new hus ⟨hb⟩ (fun b e => ?_) ?_, uset_same _ _, ?_, ?_⟩
  · rcases hv with ⟨rfl, _⟩ | ⟨b', o, cp, cur, e', rfl, h1, _⟩
    · cases e
    · have : b' = b := by simpa [Bk, blkOf] using e
      subst this; exact h1
  · rcases hv with ⟨rfl, rfl⟩ | ⟨b, o, cp, cur, e, rfl, h1, h2, h3, h4, h5, h6⟩
    · exact .inl ⟨rset_same _ _ _, rfl⟩
    · refine .inr ⟨b, o, cp, cur, e, rset_same _ _ _, h2, h3, h4, h5, fun i x hi => ?_⟩
      rcases hn with hn | hn
      · exact Rd.any hn (h6 i x hi)
      · refine Rd.mono (fun c hc => ⟨free_new (v := .slice (some ⟨b, o, none⟩) xs.length cp) h hn hb rfl (fun e => hc.1 ?_) hc.2, rfl⟩) (h6 i x hi)
        have e : b = c := by simpa [blkOf] using e
        exact e.symm
  · show [v] = [rset ρ k v k]
    rw [rset_same]
  · show (rset ρ k v k).oneCell' = true
    rw [rset_same]; exact hone
theorem ownR_sound {S : Nat → Prop} {rs : List Ty} {x : HL rs} {k : Nat} {v : Value} {sv : SV} {he : HE} {s : St} {w0 : Base} {ρ : Nat → Value} {a : Act} {w w' : World} (h : Ok w0 ρ s a w) (hus : s.us k = false) (hb : Below w.heap.size w w')
    (hok : ownOk rs = true) (hS : ownFl rs = true ∨ ∀ b, S b → Free w0 ρ s.hp w b) (hr : ownR k rs x = some (sv, he)) (hv : OwnV S w.heap.size w' rs v x) : ∃ ρ', Ok w0 ρ' (s.new k he) a w' ∧ SVc (cx w0 ρ' (s.new k he) w') sv v := by
  match rs, x, hok, hS, hr, hv with
  | [.sl t], x, hok, hS, hr, hv =>
    simp only [ownR, Option.some.injEq, Prod.mk.injEq] at hr
    obtain ⟨rfl, rfl⟩ := hr
    obtain ⟨h1, h2⟩ := own_new h hus (hS.imp (fun q => by simpa [ownFl] using q) id) hb hv
    exact ⟨_, h1, SVc.of1 rfl h2⟩
  | .sl t :: u :: r, x, hok, hS, hr, hv =>
    simp only [ownR, Option.some.injEq, Prod.mk.injEq] at hr
    obtain ⟨rfl, rfl⟩ := hr
    obtain ⟨v0, r0, rfl, hf, hrest⟩ := hv
    obtain ⟨h1, h2⟩ := own_new h hus (hS.imp (fun q => by simp only [ownFl, Bool.and_eq_true] at q; exact q.1) id) hb hf
    refine ⟨_, h1, _, rfl, v0, r0, by simp, PsC.single h2, ?_⟩
    rcases hS with hS | hS
    · simp only [ownFl, Bool.and_eq_true] at hS
      exact RdVs.tup (hrest.any hS.2)
    · exact RdVs.tup (hrest.mono fun c hc => ⟨free_new h hS hb rfl hc.1 hc.2, rfl⟩)
theorem ctrS_soundH {g : Nat} {c : Ctr} {args : List SV} {s : St} {K : SV → St → Prop} {w0 : Base} {ρ : Nat → Value} {a : Act} {w : World} {vs us : Array Value} (hc : ∀ (S : Nat → Prop) (x : HL c.as), (∀ b, S b → b < w.heap.size) → GlOk w → RdVs S w c.as vs.toList x → c.pre x →
    Calls P g us w (fun e w' => ∃ v, e = .returned v ∧ (match c.own with
      | true => OwnV S w.heap.size w' c.rs v (c.f x)
      | false => ResV (fun b => S b ∨ (w.heap.size ≤ b ∧ b < w'.heap.size)) w' c.rs v (c.f x)) ∧ Below w.heap.size w w')) (h : Ok w0 ρ s a w)
    {k : Nat} (hargs : argsC (cx w0 ρ s w) args vs.toList) (hk : ctrS c k s args K) :
    Calls P g us w (fun e w' => ∃ v sv s' ρ', e = .returned v ∧ Ok w0 ρ' s' a w' ∧ SVc (cx w0 ρ' s' w') sv v ∧ K sv s') := by
  unfold ctrS at hk
  cases ho : c.own with
  | true =>
    rw [ho] at hk
    simp only [cond_true] at hk
    cases hg : ownOk c.rs && !(s.us k) with
    | false => rw [hg] at hk; exact hk.elim
    | true =>
      rw [hg] at hk
      simp only [cond_true] at hk
      simp only [Bool.and_eq_true, Bool.not_eq_true'] at hg
      cases hfl : ownFl c.rs with
      | true =>
        rw [hfl] at hk
        simp only [cond_true] at hk
        split at hk
        · rename_i x hx
          split at hk
          · rename_i sv he hv
            obtain ⟨hpre, hK⟩ := hk
            have hr := rdArgs_c (S := fun b => b < w.heap.size) (bor := true) h (fun b hb _ => hb) hargs hx
            refine (hc (fun b => b < w.heap.size) x (fun _ hb => hb) h.gl hr hpre.out).mono fun e w' he' => ?_
            obtain ⟨v, rfl, hres, hbel⟩ := he'
            rw [ho] at hres
            obtain ⟨ρ', h1, h2⟩ := ownR_sound h hg.2 hbel hg.1 (.inl hfl) hv hres
            exact ⟨v, _, _, ρ', rfl, h1, h2, hK⟩
          · exact hk.elim
        · exact hk.elim
      | false =>
        rw [hfl] at hk
        simp only [cond_false] at hk
        split at hk
        · split at hk
          · rename_i x hx
            split at hk
            · rename_i sv he hv
              obtain ⟨hpre, hK⟩ := hk
              have hr := rdArgs_c (S := fun b => b < w.heap.size) (bor := false) h (fun b hb _ => hb) hargs hx
              refine (hc (Free w0 ρ s.hp w) x (fun _ hb => hb.1) h.gl hr hpre.out).mono fun e w' he' => ?_
              obtain ⟨v, rfl, hres, hbel⟩ := he'
              rw [ho] at hres
              obtain ⟨ρ', h1, h2⟩ := ownR_sound h hg.2 hbel hg.1 (.inr fun _ hb => hb) hv hres
              exact ⟨v, _, _, ρ', rfl, h1, h2, hK⟩
            · exact hk.elim
          · exact hk.elim
        · exact hk.elim
  | false =>
  rw [ho] at hk
  simp only [cond_false] at hk
  cases hn : c.rs.all noSl with
  | true =>
    rw [hn] at hk
    simp only [cond_true] at hk
    split at hk
    · rename_i x hx
      obtain ⟨hpre, hK⟩ := hk
      have hr := rdArgs_c (S := fun b => b < w.heap.size) (bor := true) h (fun b hb _ => hb) hargs hx
      refine (hc (fun b => b < w.heap.size) x (fun _ hb => hb) h.gl hr hpre.out).mono fun e w' he => ?_
      obtain ⟨v, rfl, hres, hbel⟩ := he
      rw [ho] at hres
      exact ⟨v, _, s, ρ, rfl, h.more ⟨hbel⟩, ResV.sv (c := cx w0 ρ s w') (hres.any hn), hK⟩
    · exact hk.elim
  | false =>
    rw [hn] at hk
    simp only [cond_false] at hk
    split at hk
    · split at hk
      · rename_i x hx
        obtain ⟨hpre, hK⟩ := hk
        have hr := rdArgs_c (S := fun b => b < w.heap.size) (bor := false) h (fun b hb _ => hb) hargs hx
        refine (hc (Free w0 ρ s.hp w) x (fun _ hb => hb.1) h.gl hr hpre.out).mono fun e w' he => ?_
        obtain ⟨v, rfl, hres, hbel⟩ := he
        rw [ho] at hres
        refine ⟨v, _, s, ρ, rfl, h.more ⟨hbel⟩, ResV.sv (c := cx w0 ρ s w') (hres.mono fun b hb => ⟨?_, rfl⟩), hK⟩
        rcases hb with hb | ⟨hb1, hb2⟩
        · exact ⟨Nat.lt_of_lt_of_le hb.1 hbel.size, hb.2.1, hb.2.2⟩
        · refine ⟨hb2, fun k he hk e => ?_, w0.all b (h.newold hb1)⟩
          have := (h.fresh k he b hk e).2
          omega
      · exact hk.elim
    · exact hk.elim

theorem ctrS_soundG {g : Nat} {c : Ctr} {ext : Array Value} (hc : ∀ (S : Nat → Prop) (w : World) (args : Array Value) (x : HL c.as), (∀ b, S b → b < w.heap.size) → GlOk w → RdVs S w c.as args.toList x → c.pre x →
    Calls P g (args ++ ext) w (fun e w' => ∃ v, e = .returned v ∧ (match c.own with
      | true => OwnV S w.heap.size w' c.rs v (c.f x)
      | false => ResV (fun b => S b ∨ (w.heap.size ≤ b ∧ b < w'.heap.size)) w' c.rs v (c.f x)) ∧ Below w.heap.size w w')) {args : List SV} {s : St} {K : SV → St → Prop} {w0 : Base} {ρ : Nat → Value} {a : Act} {w : World} {vs : Array Value} (h : Ok w0 ρ s a w)
    {k : Nat} (hargs : argsC (cx w0 ρ s w) args vs.toList) (hk : ctrS c k s args K) :
    Calls P g (vs ++ ext) w (fun e w' => ∃ v sv s' ρ', e = .returned v ∧ Ok w0 ρ' s' a w' ∧ SVc (cx w0 ρ' s' w') sv v ∧ K sv s') :=
  ctrS_soundH (vs := vs) (us := vs ++ ext) (fun S x h1 h2 h3 h4 => hc S w vs x h1 h2 h3 h4) h hargs hk

theorem ctrS_sound {g : Nat} {c : Ctr} (hc : CtrOk P g c) {args : List SV} {s : St} {K : SV → St → Prop} {w0 : Base} {ρ : Nat → Value} {a : Act} {w : World} {vs : Array Value} (h : Ok w0 ρ s a w)
    {k : Nat} (hargs : argsC (cx w0 ρ s w) args vs.toList) (hk : ctrS c k s args K) :
    Calls P g vs w (fun e w' => ∃ v sv s' ρ', e = .returned v ∧ Ok w0 ρ' s' a w' ∧ SVc (cx w0 ρ' s' w') sv v ∧ K sv s') := by
  have := ctrS_soundG (ext := #[]) (g := g) (c := c) (P := P) (fun S w args x h1 h4 h2 h3 => by rw [Array.append_empty]; exact hc.2 S w args x h1 h4 h2 h3) h hargs hk
  rwa [Array.append_empty] at this
theorem lastF_c {c : Cx} : ∀ {args l : List SV} {h : Nat} {vs : List Value}, lastF args = some (h, l) → argsC c args vs → ∃ us, vs = us ++ [.func (.func h) #[] #[]] ∧ argsC c l us
  | [], _, _, _, e, _ => by cases e
  | [x], l, h, [v], e, ha => by
    unfold lastF at e
    simp only [] at e
    split at e
    · rename_i h' fs cs
      cases hb : (fs.isEmpty && cs.isEmpty) with
      | false => rw [hb] at e; cases e
      | true =>
        rw [hb] at e
        cases e
        simp only [Bool.and_eq_true, Array.isEmpty_iff] at hb
        have h1 := SVc.one1 (p := .con (.func (.func h) fs cs)) rfl (by simp) ha.1
        have h2 : v = .func (.func h) fs cs := by simpa using h1.1
        rw [hb.1, hb.2] at h2
        exact ⟨[], by rw [h2]; rfl, trivial⟩
    · cases e
  | x :: y :: r, l, h, v :: vs, e, ha => by
    unfold lastF at e
    simp only [] at e
    split at e
    · rename_i h' l' e'
      cases e
      obtain ⟨us, e2, h2⟩ := lastF_c e' ha.2
      exact ⟨v :: us, by rw [e2]; rfl, ha.1, h2⟩
    · cases e
  | [_], _, _, [], _, ha => ha.elim
  | [_], _, _, _ :: _ :: _, _, ha => ha.2.elim
  | _ :: _ :: _, _, _, [], _, ha => ha.elim
theorem splitF_sound (hX : FxAll P X) {g : Nat} {c : Ctr} {args l : List SV} (hsp : splitF X g args = some (c, l)) {s : St} {K : SV → St → Prop} {w0 : Base} {ρ : Nat → Value} {a : Act} {w : World} {vs : Array Value} (h : Ok w0 ρ s a w)
    {k : Nat} (hargs : argsC (cx w0 ρ s w) args vs.toList) (hk : ctrS c k s l K) :
    Callable P g ∧ Calls P g vs w (fun e w' => ∃ v sv s' ρ', e = .returned v ∧ Ok w0 ρ' s' a w' ∧ SVc (cx w0 ρ' s' w') sv v ∧ K sv s') := by
  unfold splitF at hsp
  split at hsp
  · rename_i h' l' e
    split at hsp
    · rename_i c' hkf
      cases hsp
      have hc := hX.ctrF g h' c hkf
      obtain ⟨us, e1, h1⟩ := lastF_c e hargs
      have := ctrS_soundG (ext := #[.func (.func h') #[] #[]]) (g := g) (c := c) (P := P) hc.2 (vs := us.toArray) h (by simpa using h1) hk
      have e2 : us.toArray ++ #[.func (.func h') #[] #[]] = vs := by apply Array.ext'; simpa using e1.symm
      rw [e2] at this
      exact ⟨hc.1, this⟩
    · cases hsp
  · cases hsp
theorem pad_length : ∀ n, (pad n).length = n
  | 0 => rfl
  | n + 1 => by simp [pad, pad_length n]
theorem lget_pad : ∀ n i, lget (pad n) i = .one .any
  | 0, _ => rfl
  | _ + 1, 0 => rfl
  | n + 1, i + 1 => lget_pad n i
theorem lget_append : ∀ (x y : List SV) (i : Nat), lget (x ++ y) i = if i < x.length then lget x i else lget y (i - x.length)
  | [], y, i => by simp
  | _ :: _, _, 0 => by simp [lget]
  | _ :: x, y, i + 1 => by simpa [lget] using lget_append x y i
theorem argsC_get {c : Cx} : ∀ {xs : List SV} {vs : List Value}, argsC c xs vs → xs.length = vs.length ∧ ∀ i, SVc c (lget xs i) (vs.getD i undef)
  | [], [], _ => ⟨rfl, fun _ => trivial⟩
  | x :: xs, v :: vs, h => by
    obtain ⟨h1, h2⟩ := argsC_get h.2
    refine ⟨by simp [h1], fun i => ?_⟩
    cases i with
    | zero => exact h.1
    | succ i => simpa [lget] using h2 i
  | [], _ :: _, h => h.elim
  | _ :: _, [], h => h.elim

theorem enter_frame {c : Cx} {args : List SV} {vs : Array Value} {n : Nat} (h : argsC c args vs.toList) (i : Nat) :
    SVc c (lget (args ++ pad (n - args.length)) i) ((vs ++ Array.replicate (n - vs.size) undef).getD i undef) := by
  obtain ⟨h1, h2⟩ := argsC_get h
  have h1' : args.length = vs.size := by simpa using h1
  rw [lget_append]
  by_cases hi : i < args.length
  · rw [if_pos hi]
    have := h2 i
    have e : (vs ++ Array.replicate (n - vs.size) undef).getD i undef = vs.toList.getD i undef := by
      have hlt : i < vs.size := by omega
      simp [Array.getElem?_append, hlt]
    rw [e]; exact this
  · rw [if_neg hi, lget_pad]; trivial

def resSem (tmps : Array Value) : ResultVar → Sem Value
  | .tmp t => pure (tmps.getD t undef)
  | .cell a t => do loadVar t (← asAddr (tmps.getD a undef))
theorem results_eq (fn : Func) (tmps : Array Value) : results fn tmps = (do
    let vs ← fn.results.mapM (resSem tmps)
    pure (if h : vs.size = 1 then vs[0] else .tuple vs)) := by
  unfold results
  congr 1

theorem resPart_c {E : Env} (hE : EnvOk P E) {w0 : Base} {ρ : Nat → Value} {s : St} {a : Act} {w : World} (h : Ok w0 ρ s a w) {r : ResultVar} {sv : SV} (hr : resPart E s r = some sv) :
    ∃ v, SVc (cx w0 ρ s w) sv v ∧ (resSem a.tmps r).run P w = .ok v w := by
  cases r with
  | tmp t =>
    injection hr with hr
    subst hr
    exact ⟨_, h.frame t, rfl⟩
  | cell ad t =>
    simp only [resPart] at hr
    split at hr
    · rename_i ti ps j hti hl
      split at hr
      · rename_i pre m post hc
        obtain ⟨b, q, l, e, hl1, hat⟩ := locS_c h (h.frame ad) hl
        obtain ⟨h1, h2⟩ := cut3_c hc hl1
        have hn : ((l.drop j).take ti.size).length = ti.size := by rw [List.length_take, List.length_drop]; omega
        refine ⟨_, mkSV_c hr h1, ?_⟩
        have := loadAt_run (w := w) (hE t ti hti) (hat.sub j ti.size) hn
        unfold Instr.loadAt Instr.sureAddr at this
        simp only [Sem.run_bind, Sem.run_pure, Result.andThen_ok] at this
        simp only [resSem, e, asAddr, Sem.run_bind, Sem.run_pure, Result.andThen_ok]
        exact this
      · cases hr
    · cases hr
theorem resParts_c {E : Env} (hE : EnvOk P E) {w0 : Base} {ρ : Nat → Value} {s : St} {a : Act} {w : World} (h : Ok w0 ρ s a w) : ∀ {rs : List ResultVar} {svs : List SV}, resParts E s rs = some svs →
    ∃ vs, (rs.mapM (resSem a.tmps)).run P w = .ok vs w ∧ argsC (cx w0 ρ s w) svs vs
  | [], svs, hr => by
    injection hr with hr
    subst hr
    exact ⟨[], rfl, trivial⟩
  | r :: rs, svs, hr => by
    unfold resParts at hr
    split at hr
    · rename_i v hv
      split at hr
      · rename_i vs hvs
        injection hr with hr
        subst hr
        obtain ⟨u, h1, h2⟩ := resPart_c hE h hv
        obtain ⟨us, h3, h4⟩ := resParts_c hE h hvs
        exact ⟨u :: us, by simp only [List.mapM_cons, Sem.run_bind, h2, Result.andThen_ok, h3, Sem.run_pure], h1, h4⟩
      · cases hr
    · cases hr
theorem tupOf_c {c : Cx} : ∀ {svs : List SV} {vs : List Value} {es : List (Bool × List PV)}, tupOf svs = some es → argsC c svs vs → tupC c es vs
  | [], [], es, h, _ => by injection h with h; subst h; rfl
  | [], _ :: _, _, _, h => h.elim
  | _ :: _, [], _, _, h => h.elim
  | .one p :: r, v :: vs, es, h, ha => by
    have hn : p ≠ .any := fun e => by subst e; cases h
    have h' : (match tupOf r with
      | some es => some ((p.agg, [p]) :: es)
      | none => none) = some es := by cases p <;> first | exact h | exact absurd rfl hn
    split at h'
    · rename_i fs hfs
      injection h' with h'
      subst h'
      refine ⟨v, vs, rfl, ?_, tupOf_c hfs ha.2⟩
      have := ha.1
      cases p <;> first | exact absurd rfl hn | exact this
    · cases h'
  | .agg ps :: r, v :: vs, es, h, ha => by
    simp only [tupOf] at h
    split at h
    · rename_i fs hfs
      injection h with h
      subst h
      exact ⟨v, vs, rfl, ha.1, tupOf_c hfs ha.2⟩
    · cases h
  | .tup _ :: _, _ :: _, _, h, _ => by cases h
theorem resS_c {E : Env} (hE : EnvOk P E) {w0 : Base} {ρ : Nat → Value} {s : St} {a : Act} {w : World} (h : Ok w0 ρ s a w) {fn : Func} {sv : SV} (hr : resS E s fn.results.toList = some sv) :
    ∃ v, (results fn a.tmps).run P w = .ok v w ∧ SVc (cx w0 ρ s w) sv v := by
  unfold resS at hr
  have hmap : ∀ vs, (fn.results.toList.mapM (resSem a.tmps)).run P w = .ok vs w → (results fn a.tmps).run P w = .ok (if h : vs.toArray.size = 1 then vs.toArray[0] else .tuple vs.toArray) w := fun vs hvs => by
    rw [results_eq, Array.mapM_eq_mapM_toList]
    simp [hvs]
  split at hr
  · rename_i v hv
    injection hr with hr
    subst hr
    obtain ⟨vs, h1, h2⟩ := resParts_c hE h hv
    match vs, h2 with
    | [u], h2 => exact ⟨u, by rw [hmap _ h1]; rfl, h2.1⟩
    | [], h2 => exact h2.elim
    | _ :: _ :: _, h2 => exact h2.2.elim
  · rename_i vs hne hvs
    split at hr
    · rename_i es hes
      injection hr with hr
      subst hr
      obtain ⟨us, h1, h2⟩ := resParts_c hE h hvs
      have hl : us.length ≠ 1 := fun e => by
        have := (argsC_get h2).1
        rw [e] at this
        match vs, this with
        | [x], _ => exact hne x rfl
      refine ⟨.tuple us.toArray, by rw [hmap _ h1, dif_neg (by simpa using hl)], us.toArray, rfl, ?_⟩
      simpa using tupOf_c hes h2
    · cases hr
  · cases hr

theorem lenLe_le : ∀ {x y : List SV}, lenLe x y = true → x.length ≤ y.length
  | [], _, _ => by simp
  | _ :: x, _ :: y, h => by simpa using lenLe_le (x := x) (y := y) h
  | _ :: _, [], h => by cases h
theorem takeL_eq : ∀ (x y : List SV), takeL x y = y.take x.length
  | [], y => by cases y <;> rfl
  | _ :: _, [] => rfl
  | _ :: x, _ :: y => by simp [takeL, takeL_eq x y]
theorem dropL_eq : ∀ (x y : List SV), dropL x y = y.drop x.length
  | [], y => by cases y <;> rfl
  | _ :: _, [] => rfl
  | _ :: x, _ :: y => by simp [dropL, dropL_eq x y]
theorem lget_take : ∀ (l : List SV) (n i : Nat), i < n → lget (l.take n) i = lget l i
  | [], n, i, _ => by simp
  | _ :: _, 0, _, h => by omega
  | _ :: _, _ + 1, 0, _ => rfl
  | _ :: l, n + 1, i + 1, h => lget_take l n i (by omega)
theorem lget_drop : ∀ (l : List SV) (n i : Nat), lget (l.drop n) i = lget l (n + i)
  | [], n, i => by simp [lget]
  | _ :: _, 0, i => by simp
  | _ :: l, n + 1, i => by
    rw [show n + 1 + i = (n + i) + 1 by omega]
    exact lget_drop l n i

structure Under (σ : Ren) (l : List (Nat × PV)) (c c' : Cx) : Prop where
  ρ : ∀ k, trkd l k = true → c'.ρ (σ.at k) = c.ρ k
  us : ∀ k, trkd l k = true → c'.us (σ.at k) = true
  keep : Keeps c.S c.w c'.S c'.w
theorem PVc.ren {σ : Ren} {l : List (Nat × PV)} {c c' : Cx} (h : Under σ l c c') {p : PV} {m : List Value} (hs : simpP l p = true) (hp : PVc c p m) : PVc c' (p.ren σ) m := by
  cases p with
  | any => exact hp
  | d t x => exact Rd.mono h.keep hp
  | lit b => exact hp
  | con v => exact hp
  | row k => exact ⟨h.us k hs, by rw [h.ρ k hs]; exact hp.2⟩
  | ptr k o => exact ⟨h.us k hs, by rw [h.ρ k hs]; exact hp.2⟩
  | clo k => exact ⟨h.us k hs, by rw [h.ρ k hs]; exact hp.2⟩
  | _ => cases hs
theorem PV.ren_agg {σ : Ren} (p : PV) : (p.ren σ).agg = p.agg := by cases p <;> rfl
theorem simpPs_mem {l : List (Nat × PV)} : ∀ {ps : List PV}, simpPs l ps = true → ∀ p ∈ ps, simpP l p = true
  | [], _ => fun p hp => by cases hp
  | q :: r, h => fun p hp => by
    unfold simpPs at h
    cases e : simpP l q with
    | false => rw [e] at h; cases h
    | true =>
      rw [e] at h
      rcases List.mem_cons.1 hp with rfl | hp
      · exact e
      · exact simpPs_mem h p hp
theorem PsC.ren {σ : Ren} {l : List (Nat × PV)} {c c' : Cx} (h : Under σ l c c') : ∀ {ps : List PV} {m : List Value}, simpPs l ps = true → PsC c ps m → PsC c' (ps.map (PV.ren σ)) m
  | [], _, _, hp => hp
  | p :: r, m, hs, hp => by
    obtain ⟨a, b, e, h1, h2⟩ := hp
    have hs1 := simpPs_mem hs p (by simp)
    refine ⟨a, b, e, h1.ren h hs1, PsC.ren h ?_ h2⟩
    unfold simpPs at hs
    rw [hs1] at hs
    exact hs
theorem HEc.ren {σ : Ren} {l : List (Nat × PV)} {c c' : Cx} (h : Under σ l c c') (hw : c'.w = c.w) {k : Nat} {he : HE} (hs : simpHE l he = true) (hk : (trkHE k he).isSome = true → c'.ρ (σ.at k) = c.ρ k) (hp : HEc c k he) :
    HEc c' (σ.at k) (he.ren σ) := by
  cases he with
  | box ps =>
    obtain ⟨b, e, cs, h1, h2, h3⟩ := hp
    exact ⟨b, e, cs, (hk rfl).trans h1, by rw [hw]; exact h2, h3.ren h hs⟩
  | row t xs =>
    rcases hp with ⟨h1, h2⟩ | ⟨b, o, cp, cur, e, h1, h2, h3, h4, h5, h6⟩
    · exact .inl ⟨(hk rfl).trans h1, h2⟩
    · exact .inr ⟨b, o, cp, cur, e, (hk rfl).trans h1, by rw [hw]; exact h2, h3, h4, h5, fun i x hi => Rd.mono h.keep (h6 i x hi)⟩
  | clo f caps =>
    obtain ⟨vs, h1, h2, h3, h4⟩ := hp
    refine ⟨vs, (hk rfl).trans h1, h2.ren h hs, by rw [List.length_map]; exact h3, fun p hp => ?_⟩
    obtain ⟨q, hq, rfl⟩ := List.mem_map.1 hp
    rw [PV.ren_agg]; exact h4 q hq
  | map kk t xs =>
    obtain ⟨b, es, cl, h1, h2, h3, h4⟩ := hp
    exact ⟨b, es, cl, (hk rfl).trans h1, by rw [hw]; exact h2, h3.keep h.keep, h4⟩
  | pool t m =>
    refine ⟨hp.1, fun e he => ?_⟩
    obtain ⟨h1, ty, cs, h2, h3⟩ := hp.2 e he
    exact ⟨h1, ty, cs, by rw [hw]; exact h2, Rd.mono h.keep h3⟩
  | pmap kk es => cases hs
  | mapit kk t xs r rem cur => cases hs
  | orw t xss => cases hs
theorem ren_bk {σ : Ren} {he : HE} {v : Value} {b : Nat} : Bk (he.ren σ) v b ↔ Bk he v b := by cases he <;> exact Iff.rfl
theorem bk_of {k : Nat} {he : HE} {l : List (Nat × PV)} (hs : simpHE l he = true) {v v' : Value} {b : Nat} (hv : (trkHE k he).isSome = true → v = v') (hb : Bk he v b) : Bk he v' b := by
  cases he with
  | pool t m => exact hb
  | pmap _ _ => cases hs
  | mapit _ _ _ _ _ _ => cases hs
  | orw _ _ => cases hs
  | _ => rw [← hv rfl]; exact hb
theorem trkd_iff {k : Nat} : ∀ {l : List (Nat × HE)}, trkd (trks l) k = true ↔ ∃ h, (k, h) ∈ l ∧ (trkHE k h).isSome = true
  | [] => by simp [trks, trkd]
  | (j, h) :: r => by
    have ih := trkd_iff (k := k) (l := r)
    unfold trks
    cases e : trkHE j h with
    | none =>
      show trkd (trks r) k = true ↔ _
      rw [ih]
      constructor
      · rintro ⟨h', hm, hs⟩; exact ⟨h', List.mem_cons_of_mem _ hm, hs⟩
      · rintro ⟨h', hm, hs⟩
        rcases List.mem_cons.1 hm with e2 | hm
        · injection e2 with e3 e4; subst e3; subst e4; rw [e] at hs; cases hs
        · exact ⟨h', hm, hs⟩
    | some p =>
      show trkd ((j, p) :: trks r) k = true ↔ _
      unfold trkd
      cases eb : Nat.beq k j with
      | true =>
        have := Nat.eq_of_beq_eq_true eb
        subst this
        exact ⟨fun _ => ⟨h, by simp, by rw [e]; rfl⟩, fun _ => rfl⟩
      | false =>
        rw [cond_false, ih]
        constructor
        · rintro ⟨h', hm, hs⟩; exact ⟨h', List.mem_cons_of_mem _ hm, hs⟩
        · rintro ⟨h', hm, hs⟩
          rcases List.mem_cons.1 hm with e2 | hm
          · injection e2 with e3 e4; subst e3; rw [Nat.beq_refl] at eb; cases eb
          · exact ⟨h', hm, hs⟩
theorem trkHE_any {k k' : Nat} {h : HE} : (trkHE k h).isSome = (trkHE k' h).isSome := by cases h <;> rfl
theorem sameNms_at : ∀ {l l' : List (Nat × HE)}, sameNms l l' = true → (∀ k h, (k, h) ∈ l → ∃ h', (k, h') ∈ l' ∧ (trkHE k h').isSome = (trkHE k h).isSome) ∧ (∀ k h', (k, h') ∈ l' → ∃ h, (k, h) ∈ l ∧ (trkHE k h).isSome = (trkHE k h').isSome)
  | [], [], _ => ⟨fun k h hm => (by cases hm), fun k h hm => (by cases hm)⟩
  | (k0, h0) :: r, (j0, g0) :: q, h => by
    unfold sameNms at h
    cases eb : Nat.beq k0 j0 with
    | false => rw [eb] at h; cases h
    | true =>
      rw [eb] at h
      simp only [cond_true] at h
      have := Nat.eq_of_beq_eq_true eb
      subst this
      have key : sameNms r q = true ∧ (trkHE k0 g0).isSome = (trkHE k0 h0).isSome := by
        split at h
        · rename_i e1 e2; exact ⟨h, by rw [e1, e2]; rfl⟩
        · rename_i e1 e2; exact ⟨h, by rw [e1, e2]⟩
        · cases h
      obtain ⟨i1, i2⟩ := sameNms_at key.1
      refine ⟨fun k h hm => ?_, fun k h' hm => ?_⟩
      · rcases List.mem_cons.1 hm with e | hm
        · injection e with e3 e4; subst e3; subst e4; exact ⟨g0, by simp, key.2⟩
        · obtain ⟨h', hm', e⟩ := i1 k h hm; exact ⟨h', List.mem_cons_of_mem _ hm', e⟩
      · rcases List.mem_cons.1 hm with e | hm
        · injection e with e3 e4; subst e3; subst e4; exact ⟨h0, by simp, key.2.symm⟩
        · obtain ⟨h', hm', e⟩ := i2 k h' hm; exact ⟨h', List.mem_cons_of_mem _ hm', e⟩
  | [], _ :: _, h => by cases h
  | _ :: _, [], h => by cases h
theorem simpH_mem {l : List (Nat × PV)} : ∀ {hs : List (Nat × HE)}, simpH l hs = true → ∀ k h, (k, h) ∈ hs → simpHE l h = true
  | [], _ => fun _ _ hp => by cases hp
  | (j, q) :: r, h => fun k he hp => by
    unfold simpH at h
    cases e : simpHE l q with
    | false => rw [e] at h; cases h
    | true =>
      rw [e] at h
      rcases List.mem_cons.1 hp with e2 | hp
      · injection e2 with _ e3; subst e3; exact e
      · exact simpH_mem h k he hp
theorem over_some {σ : Ren} {hp : Nat → Option HE} {n : Nat} {he : HE} : ∀ {l : List (Nat × HE)}, over σ hp l n = some he →
    (∃ k h, assoc l k = some h ∧ n = σ.at k ∧ he = h.ren σ) ∨ ((∀ k h, (k, h) ∈ l → n ≠ σ.at k) ∧ hp n = some he)
  | [], h => .inr ⟨fun _ _ hm => (by cases hm), h⟩
  | (k0, h0) :: r, h => by
    unfold over at h
    cases e : Nat.beq n (σ.at k0) with
    | true =>
      rw [e] at h
      simp only [cond_true, Option.some.injEq] at h
      exact .inl ⟨k0, h0, by unfold assoc; rw [Nat.beq_refl]; rfl, Nat.eq_of_beq_eq_true e, h.symm⟩
    | false =>
      rw [e] at h
      have hne : n ≠ σ.at k0 := fun e2 => by rw [e2, Nat.beq_refl] at e; cases e
      rcases over_some (l := r) h with ⟨k, h1, g1, g2, g3⟩ | ⟨g1, g2⟩
      · refine .inl ⟨k, h1, ?_, g2, g3⟩
        unfold assoc
        cases e3 : Nat.beq k k0 with
        | true => have := Nat.eq_of_beq_eq_true e3; subst this; exact absurd g2 hne
        | false => exact g1
      · refine .inr ⟨fun k h1 hm => ?_, g2⟩
        rcases List.mem_cons.1 hm with e2 | hm
        · injection e2 with e3 _; subst e3; exact hne
        · exact g1 k h1 hm
theorem over_none {σ : Ren} {hp : Nat → Option HE} {n : Nat} : ∀ {l : List (Nat × HE)}, (∀ k h, (k, h) ∈ l → n ≠ σ.at k) → over σ hp l n = hp n
  | [], _ => rfl
  | (k0, h0) :: r, h => by
    unfold over
    cases e : Nat.beq n (σ.at k0) with
    | true => exact absurd (Nat.eq_of_beq_eq_true e) (h k0 h0 (by simp))
    | false => exact over_none fun k h1 hm => h k h1 (List.mem_cons_of_mem _ hm)

theorem Ok.enter {w0 : Base} {ρ : Nat → Value} {s : St} {a : Act} {w : World} (hok : Ok w0 ρ s a w) {args : List SV} {vs : Array Value} (hargs : argsC (cx w0 ρ s w) args vs.toList) :
    Ok { w0 with bv := a.tmps.toList ++ w0.bv } ρ { s with fr := args, bk := s.fr ++ s.bk } { tmps := vs, defers := [] } w := by
  obtain ⟨hal, hget⟩ := argsC_get hargs
  exact { defers := rfl, below := hok.below, len := by simpa using hal, frame := fun i => by
            have := hget i
            have e : vs.toList.getD i undef = vs.getD i undef := by simp
            rw [e] at this; exact this
          back := fun i => by
            show SVc (cx w0 ρ s w) (lget (s.fr ++ s.bk) i) ((a.tmps.toList ++ w0.bv).getD i undef)
            rw [lget_append]
            have hlen : s.fr.length = a.tmps.toList.length := by rw [hok.len]; simp
            by_cases hi : i < s.fr.length
            · rw [if_pos hi]
              have := hok.frame i
              have e : (a.tmps.toList ++ w0.bv).getD i undef = a.tmps.getD i undef := by
                have hlt : i < a.tmps.size := by rw [← hok.len]; exact hi
                simp [List.getElem?_append, hlt]
              rw [e]; exact this
            · rw [if_neg hi]
              have := hok.back (i - s.fr.length)
              have e : (a.tmps.toList ++ w0.bv).getD i undef = w0.bv.getD (i - s.fr.length) undef := by
                rw [hlen] at hi ⊢
                rw [List.getD, List.getD, List.getElem?_append_right (by omega)]
              rw [e]; exact this
          heap := hok.heap, used := hok.used, fresh := hok.fresh, apart := hok.apart }
theorem Ok.leave {w0 : Base} {ρ ρ' : Nat → Value} {s s' : St} {a a' : Act} {w w' : World} (hok : Ok w0 ρ s a w) (ho : Ok { w0 with bv := a.tmps.toList ++ w0.bv } ρ' s' a' w') (hll : lenLe s.fr s'.bk = true) :
    Ok w0 ρ' { s' with fr := takeL s.fr s'.bk, bk := dropL s.fr s'.bk } a w' := by
  have hlen := lenLe_le hll
  have hlen2 : s.fr.length = a.tmps.toList.length := by rw [hok.len]; simp
  exact {
    defers := hok.defers, below := ho.below, len := by rw [takeL_eq, List.length_take, Nat.min_eq_left hlen]; exact hok.len,
    frame := fun i => by
      show SVc (cx w0 ρ' s' w') (lget (takeL s.fr s'.bk) i) (a.tmps.getD i undef)
      rw [takeL_eq]
      by_cases hi : i < s.fr.length
      · rw [lget_take _ _ _ hi]
        have := ho.back i
        have e : (a.tmps.toList ++ w0.bv).getD i undef = a.tmps.getD i undef := by
          have hlt : i < a.tmps.size := by rw [← hok.len]; exact hi
          simp [List.getElem?_append, hlt]
        rw [show ({ w0 with bv := a.tmps.toList ++ w0.bv } : Base).bv = a.tmps.toList ++ w0.bv from rfl, e] at this
        exact this
      · have e : lget (s'.bk.take s.fr.length) i = .one .any := by
          have hlt : (s'.bk.take s.fr.length).length ≤ i := by rw [List.length_take]; omega
          generalize s'.bk.take s.fr.length = l at hlt
          clear hi hlen2 hlen hll
          induction l generalizing i with
          | nil => rfl
          | cons x l ih =>
            cases i with
            | zero => simp at hlt
            | succ i => exact ih i (by simpa using hlt)
        rw [e]; trivial
    back := fun i => by
      show SVc (cx w0 ρ' s' w') (lget (dropL s.fr s'.bk) i) (w0.bv.getD i undef)
      rw [dropL_eq, lget_drop]
      have := ho.back (s.fr.length + i)
      have e : (a.tmps.toList ++ w0.bv).getD (s.fr.length + i) undef = w0.bv.getD i undef := by
        rw [hlen2, List.getD, List.getD, List.getElem?_append_right (by omega)]
        congr 2; omega
      rw [show ({ w0 with bv := a.tmps.toList ++ w0.bv } : Base).bv = a.tmps.toList ++ w0.bv from rfl, e] at this
      exact this
    heap := ho.heap, used := ho.used, fresh := ho.fresh, apart := ho.apart }
theorem prcS_sound {g : Nat} {p : Prc} (hp : PrcOk P g p) {args : List SV} {s : St} {K : SV → St → Prop} {w0 : Base} {ρ : Nat → Value} {a : Act} {w : World} {vs : Array Value} (h : Ok w0 ρ s a w)
    (hargs : argsC (cx w0 ρ s w) args vs.toList) (hk : prcS p args s K) :
    Calls P g vs w (fun e w' => ∃ v sv s' ρ', e = .returned v ∧ Ok w0 ρ' s' a w' ∧ SVc (cx w0 ρ' s' w') sv v ∧ K sv s') := by
  have hent := h.enter hargs
  unfold prcS at hk
  split at hk
  rotate_left
  · exact hk.elim
  rename_i x hx
  cases hns : p.rs.all noSl with
  | false => rw [hns] at hk; exact hk.elim
  | true =>
  rw [hns] at hk
  simp only [cond_true] at hk
  obtain ⟨hpre, hk⟩ := hk
  have hlens := p.told _ _ _ _ _ x hent hx
  have hst : ∀ v, p.inv x = v → p.st x = Inv.st (blank p.n) v := fun v e => by rw [← e]; rfl
  have hrun := hp.2 (x := x)
  have hnm : trkd (trks (p.inv x).heap) = trkd (trks (p.inv x).heap) := rfl
  generalize hv : p.inv x = v at hk hrun
  generalize hv' : p.inv (p.f x).1 = v' at hk hrun
  rw [hst v hv] at hrun
  try simp only [] at hk
  obtain ⟨ρ2, h2⟩ := packHeap_ok v.heap (s.nx + 1000000) _ ρ hent
  obtain ⟨ρ0, h0⟩ := nilSlots_ok v.slots s.nx _ ρ2 h2 v
  obtain ⟨ρ1, h1⟩ := nilHeap_ok v v.heap (s.nx + v.slots.length) _ ρ0 h0
  generalize nilHeap (nilSlots (packHeap { s with fr := args, bk := s.fr ++ s.bk } (s.nx + 1000000) v.heap) v s.nx v.slots) v (s.nx + v.slots.length) v.heap = s1 at h1 hk
  generalize mHeap s1 (mHeap s1 (mSlots s1 [] v.slots) v.heap) v.heap = σ at hk
  cases hb : (sameLen s1.fr (anys (pad p.n)) && (injN σ v.heap [] && (okSlots v v.slots [] && (okHeap v v.heap [] && (simpH (trks v.heap) v'.heap && (sameNms v.heap v'.heap && lenLe s.fr s1.bk)))))) with
  | false => rw [hb] at hk; exact hk.elim
  | true =>
  rw [hb] at hk
  simp only [cond_true] at hk
  obtain ⟨⟨hls, hlh⟩, hK⟩ := hk
  simp only [Bool.and_eq_true] at hb
  obtain ⟨hb1, hb2, hb3, hb4, hb5, hb6, hb7⟩ := hb
  obtain ⟨_, hinj⟩ := injN_inj hb2
  obtain ⟨hn1, hn2⟩ := sameNms_at hb6
  generalize hw1 : ({ w0 with bv := a.tmps.toList ++ w0.bv } : Base) = w1 at h1 hent
  let T : Nat → Prop := fun n => ∃ k he, (k, he) ∈ v.heap ∧ n = σ.at k
  let old2 : Nat → Prop := fun b => b < w.heap.size ∧ ∀ n he, T n → s1.hp n = some he → ¬ Bk he (ρ1 n) b
  let w2 : Base := { w := w, old := old2, oldlt := fun _ hb => hb.1, S := fun b => old2 b → Free w1 ρ1 s1.hp w b, all := fun b hb hb' => absurd hb' hb, bv := [], gl := h1.gl,
                     glold := fun q hq => ⟨(h1.gl q hq).1, fun n he _ hn hB => (h1.fresh n he _ hn hB).1 (w1.glold q hq)⟩ }
  have hmem : ∀ {k he}, (Inv.st (blank p.n) v).hp k = some he → (k, he) ∈ v.heap := fun e => assoc_mem e
  have hover : Over σ v (cx w1 ρ1 s1 w) (cx w2 (fun k => ρ1 (σ.at k)) (Inv.st (blank p.n) v) w) := by
    refine ⟨fun _ => rfl, fun k hk => hk, fun b hS => ⟨⟨hS.1, fun k he hk => ?_, fun _ => hS⟩, rfl⟩⟩
    obtain ⟨h', hh, hl⟩ := leHeap_mem hlh (hmem hk)
    exact fun hB => hS.2.1 _ h' hh (leHE_bk hl hB)
  have hTm : ∀ {k he}, (k, he) ∈ v.heap → ∃ h', s1.hp (σ.at k) = some h' ∧ leHE σ h' he := fun hm => leHeap_mem hlh hm
  have hcal : Ok w2 (fun k => ρ1 (σ.at k)) (Inv.st (blank p.n) v) { tmps := vs, defers := [] } w := by
    refine { defers := rfl, below := BelowS.refl _ _, len := ?_, frame := ?_, back := ?_, heap := ?_, used := ?_, fresh := ?_, apart := ?_ }
    · show (setSlots (anys (pad p.n)) v.slots).length = _
      rw [setSlots_length, ← sameLen_eq hb1]; exact h1.len
    · intro i
      show SVc _ (lget (setSlots (anys (pad p.n)) v.slots) i) _
      rcases lget_setSlots v.slots (anys (pad p.n)) i with e | ⟨y, hy, e⟩ | e
      · rw [e, lget_anys]; trivial
      · rw [e]
        exact leSV_c hover (leSlots_mem hls hy) (okSlots_mem hb3 hy) (h1.frame i)
      · rw [e]; trivial
    · intro i
      show SVc _ (lget [] i) _
      unfold lget; cases i <;> trivial
    · intro k he hk
      obtain ⟨h', hh, hle⟩ := hTm (hmem hk)
      exact leHE_c hover rfl hle (okHeap_mem hb4 (hmem hk)) (h1.heap _ h' hh)
    · intro k he hk
      show (assoc v.heap k).isSome = true
      rw [show assoc v.heap k = some he from hk]; rfl
    · intro k he b hk hbk
      obtain ⟨h', hh, hl⟩ := hTm (hmem hk)
      exact ⟨fun ho => ho.2 _ h' ⟨k, he, hmem hk, rfl⟩ hh (leHE_bk hl hbk), (h1.fresh _ h' b hh (leHE_bk hl hbk)).2⟩
    · intro k k' he he' b hne hk hk' hb1' hb2'
      obtain ⟨g1, hg, hl⟩ := hTm (hmem hk)
      obtain ⟨g1', hg', hl'⟩ := hTm (hmem hk')
      exact h1.apart _ _ g1 g1' b (fun e => hne (hinj k he k' he' (hmem hk) (hmem hk') e)) hg hg' (leHE_bk hl hb1') (leHE_bk hl' hb2')
  refine (hrun w2 _ w vs hcal hpre.out hlens).mono fun e w' he' => ?_
  obtain ⟨rv, ρ3, rfl, hρ3, hex, hres⟩ := he'
  have hnew : ∀ {n he}, over σ s1.hp v'.heap n = some he → (∃ k h', assoc v'.heap k = some h' ∧ n = σ.at k ∧ he = h'.ren σ ∧ simpHE (trks v.heap) h' = true ∧ ((trkHE k h').isSome = true → ρ3 k = ρ1 n)) ∨ ((∀ k h', (k, h') ∈ v.heap → n ≠ σ.at k) ∧ s1.hp n = some he) := fun {n he} ho => by
    rcases over_some ho with ⟨k, h', g1, g2, g3⟩ | ⟨g1, g2⟩
    · refine .inl ⟨k, h', g1, g2, g3, simpH_mem hb5 k h' (assoc_mem g1), fun hs => ?_⟩
      obtain ⟨h'', hm, e⟩ := hn2 k h' (assoc_mem g1)
      rw [g2]
      exact hρ3 k (trkd_iff.2 ⟨h'', hm, by rw [e]; exact hs⟩)
    · refine .inr ⟨fun k h' hm => ?_, g2⟩
      obtain ⟨h'', hm', _⟩ := hn1 k h' hm
      exact g1 k h'' hm'
  have hout : ∀ {n he}, (∀ k h', (k, h') ∈ v.heap → n ≠ σ.at k) → s1.hp n = some he → ∀ b, Bk he (ρ1 n) b → old2 b := fun {n he} hn hh b hB =>
    ⟨(h1.fresh n he b hh hB).2, fun n0 h0 ⟨k, h', hm, e⟩ hh0 hB0 => h1.apart n0 n h0 he b (fun e2 => hn k h' hm (e2.symm.trans e)) hh0 hh hB0 hB⟩
  have hown : ∀ b, ¬ old2 b → b < w.heap.size → ∃ n0 h0, T n0 ∧ s1.hp n0 = some h0 ∧ Bk h0 (ρ1 n0) b := fun b hb hlt =>
    Classical.byContradiction fun hc => hb ⟨hlt, fun n he hT hn hB => hc ⟨n, he, hT, hn, hB⟩⟩
  have hunder : Under σ (trks v.heap) (cx w2 ρ3 (hpOf v'.heap) w') (cx w1 ρ1 { s1 with hp := over σ s1.hp v'.heap } w') := by
    refine ⟨fun k hk => (hρ3 k hk).symm, fun k hk => ?_, fun b hS => ⟨⟨hS.1, fun n he hn hB => ?_, ?_⟩, rfl⟩⟩
    · obtain ⟨h', hm, _⟩ := trkd_iff.1 hk
      obtain ⟨h'', hh, _⟩ := hTm hm
      exact h1.used _ h'' hh
    · rcases hnew hn with ⟨k, h', g1, g2, g3, g4, g5⟩ | ⟨g1, g2⟩
      · rw [g3] at hB
        exact hS.2.1 k h' g1 (bk_of g4 (fun hs => (g5 hs).symm) (ren_bk.1 hB))
      · exact (hS.2.2 (hout g1 g2 b hB)).2.1 n he g2 hB
    · by_cases ho : old2 b
      · exact (hS.2.2 ho).2.2
      · rcases Nat.lt_or_ge b w.heap.size with hlt | hge
        · obtain ⟨n0, h0, _, hh, hB⟩ := hown b ho hlt
          exact w1.all b (h1.fresh n0 h0 b hh hB).1
        · exact w1.all b (h1.newold hge)
  have hok3 : Ok w1 ρ1 { s1 with hp := over σ s1.hp v'.heap } { tmps := vs, defers := [] } w' := by
    refine Ok.step T h1 rfl rfl (fun _ h => h) (fun _ _ => rfl) ⟨hex.below.os, hex.below.tape, hex.below.output, hex.below.size, fun b hb => hex.below.block b ⟨h1.oldlt hb, fun n he _ hn hB => (h1.fresh n he b hn hB).1 hb⟩⟩
      (fun n hT => over_none fun k h' hm e => ?_) (fun b hb hnb => hex.below.block b ⟨hb, hnb⟩) (fun n he b _ hn hB => ?_) (fun n he ⟨k, h', hm, e⟩ _ => ?_) (fun n n' he he' b hne hT hT' hn hn' hB hB' => ?_) (fun n he hT hn _ => ?_)
    · obtain ⟨h'', hm', _⟩ := hn2 k h' hm
      exact hT ⟨k, h'', hm', e⟩
    · rcases hnew hn with ⟨k, h', g1, g2, g3, g4, g5⟩ | ⟨g1, g2⟩
      · rw [g3] at hB
        have hf := hex.fresh k h' b g1 (bk_of g4 (fun hs => (g5 hs).symm) (ren_bk.1 hB))
        rcases Nat.lt_or_ge b w.heap.size with hlt | hge
        · exact .inl (hown b hf.1 hlt)
        · exact .inr ⟨hge, hf.2⟩
      · rename_i hT
        obtain ⟨k, h', hm, e⟩ := hT
        exact absurd e (g1 k h' hm)
    · obtain ⟨h'', hh, _⟩ := hTm hm
      rw [e]; exact h1.used _ h'' hh
    · rcases hnew hn with ⟨k, h', g1, g2, g3, g4, g5⟩ | ⟨g1, _⟩
      · rcases hnew hn' with ⟨k', h'', f1, f2, f3, f4, f5⟩ | ⟨f1, _⟩
        · rw [g3] at hB
          rw [f3] at hB'
          exact hex.apart k k' h' h'' b (fun e => hne (by rw [g2, f2, e])) g1 f1 (bk_of g4 (fun hs => (g5 hs).symm) (ren_bk.1 hB)) (bk_of f4 (fun hs => (f5 hs).symm) (ren_bk.1 hB'))
        · obtain ⟨k, h', hm, e⟩ := hT'
          exact absurd e (f1 k h' hm)
      · obtain ⟨k, h', hm, e⟩ := hT
        exact absurd e (g1 k h' hm)
    · rcases hnew hn with ⟨k, h', g1, g2, g3, g4, g5⟩ | ⟨g1, _⟩
      · rw [g3, g2]
        exact HEc.ren hunder rfl g4 (fun hs => by rw [← g2]; exact (g5 hs).symm) (hex.heap k h' g1)
      · obtain ⟨k, h', hm, e⟩ := hT
        exact absurd e (g1 k h' hm)
  subst hw1
  exact ⟨rv, _, _, ρ1, rfl, h.leave (s' := { s1 with hp := over σ s1.hp v'.heap }) hok3 hb7, ResV.sv (hres.any hns), hK⟩

theorem prcO_sound {g n0 k : Nat} {p : Prc} (hp : PrcOkO P g p n0) {args : List SV} {s : St} {K : SV → St → Prop} {w0 : Base} {ρ : Nat → Value} {a : Act} {w : World} {vs : Array Value} (h : Ok w0 ρ s a w)
    (hargs : argsC (cx w0 ρ s w) args vs.toList) (hk : prcO p n0 k args s K) :
    Calls P g vs w (fun e w' => ∃ v sv s' ρ', e = .returned v ∧ Ok w0 ρ' s' a w' ∧ SVc (cx w0 ρ' s' w') sv v ∧ K sv s') := by
  have hent := h.enter hargs
  unfold prcO at hk
  split at hk
  rotate_left
  · exact hk.elim
  rename_i x hx
  obtain ⟨hpre, hk⟩ := hk
  have hlens := p.told _ _ _ _ _ x hent hx
  have hst : ∀ v, p.inv x = v → p.st x = Inv.st (blank p.n) v := fun v e => by rw [← e]; rfl
  have hrun := hp.2 (x := x)
  have hnm : trkd (trks (p.inv x).heap) = trkd (trks (p.inv x).heap) := rfl
  generalize hv : p.inv x = v at hk hrun
  generalize hv' : p.inv (p.f x).1 = v' at hk hrun
  rw [hst v hv] at hrun
  try simp only [] at hk
  obtain ⟨ρ2, h2⟩ := packHeap_ok v.heap (s.nx + 1000000) _ ρ hent
  obtain ⟨ρ0, h0⟩ := nilSlots_ok v.slots s.nx _ ρ2 h2 v
  obtain ⟨ρ1, h1⟩ := nilHeap_ok v v.heap (s.nx + v.slots.length) _ ρ0 h0
  generalize nilHeap (nilSlots (packHeap { s with fr := args, bk := s.fr ++ s.bk } (s.nx + 1000000) v.heap) v s.nx v.slots) v (s.nx + v.slots.length) v.heap = s1 at h1 hk
  generalize mHeap s1 (mHeap s1 (mSlots s1 [] v.slots) v.heap) v.heap = σ at hk
  cases hb : (isRow (assoc v'.heap n0) && !(s1.us k)) && (sameLen s1.fr (anys (pad p.n)) && (injN σ v.heap [] && (okSlots v v.slots [] && (okHeap v v.heap [] && (simpH (trks v.heap) v'.heap && (sameNms v.heap v'.heap && lenLe s.fr s1.bk)))))) with
  | false => rw [hb] at hk; exact hk.elim
  | true =>
  rw [hb] at hk
  simp only [cond_true] at hk
  obtain ⟨⟨hls, hlh⟩, hK⟩ := hk
  simp only [Bool.and_eq_true] at hb
  obtain ⟨⟨hr0, hku⟩, hb1, hb2, hb3, hb4, hb5, hb6, hb7⟩ := hb
  have hku : s1.us k = false := by simpa using hku
  obtain ⟨_, hinj⟩ := injN_inj hb2
  obtain ⟨hn1, hn2⟩ := sameNms_at hb6
  generalize hw1 : ({ w0 with bv := a.tmps.toList ++ w0.bv } : Base) = w1 at h1 hent
  let T : Nat → Prop := fun n => ∃ k he, (k, he) ∈ v.heap ∧ n = σ.at k
  let old2 : Nat → Prop := fun b => b < w.heap.size ∧ ∀ n he, T n → s1.hp n = some he → ¬ Bk he (ρ1 n) b
  let w2 : Base := { w := w, old := old2, oldlt := fun _ hb => hb.1, S := fun b => old2 b → Free w1 ρ1 s1.hp w b, all := fun b hb hb' => absurd hb' hb, bv := [], gl := h1.gl,
                     glold := fun q hq => ⟨(h1.gl q hq).1, fun n he _ hn hB => (h1.fresh n he _ hn hB).1 (w1.glold q hq)⟩ }
  have hmem : ∀ {k he}, (Inv.st (blank p.n) v).hp k = some he → (k, he) ∈ v.heap := fun e => assoc_mem e
  have hover : Over σ v (cx w1 ρ1 s1 w) (cx w2 (fun k => ρ1 (σ.at k)) (Inv.st (blank p.n) v) w) := by
    refine ⟨fun _ => rfl, fun k hk => hk, fun b hS => ⟨⟨hS.1, fun k he hk => ?_, fun _ => hS⟩, rfl⟩⟩
    obtain ⟨h', hh, hl⟩ := leHeap_mem hlh (hmem hk)
    exact fun hB => hS.2.1 _ h' hh (leHE_bk hl hB)
  have hTm : ∀ {k he}, (k, he) ∈ v.heap → ∃ h', s1.hp (σ.at k) = some h' ∧ leHE σ h' he := fun hm => leHeap_mem hlh hm
  have hcal : Ok w2 (fun k => ρ1 (σ.at k)) (Inv.st (blank p.n) v) { tmps := vs, defers := [] } w := by
    refine { defers := rfl, below := BelowS.refl _ _, len := ?_, frame := ?_, back := ?_, heap := ?_, used := ?_, fresh := ?_, apart := ?_ }
    · show (setSlots (anys (pad p.n)) v.slots).length = _
      rw [setSlots_length, ← sameLen_eq hb1]; exact h1.len
    · intro i
      show SVc _ (lget (setSlots (anys (pad p.n)) v.slots) i) _
      rcases lget_setSlots v.slots (anys (pad p.n)) i with e | ⟨y, hy, e⟩ | e
      · rw [e, lget_anys]; trivial
      · rw [e]
        exact leSV_c hover (leSlots_mem hls hy) (okSlots_mem hb3 hy) (h1.frame i)
      · rw [e]; trivial
    · intro i
      show SVc _ (lget [] i) _
      unfold lget; cases i <;> trivial
    · intro k he hk
      obtain ⟨h', hh, hle⟩ := hTm (hmem hk)
      exact leHE_c hover rfl hle (okHeap_mem hb4 (hmem hk)) (h1.heap _ h' hh)
    · intro k he hk
      show (assoc v.heap k).isSome = true
      rw [show assoc v.heap k = some he from hk]; rfl
    · intro k he b hk hbk
      obtain ⟨h', hh, hl⟩ := hTm (hmem hk)
      exact ⟨fun ho => ho.2 _ h' ⟨k, he, hmem hk, rfl⟩ hh (leHE_bk hl hbk), (h1.fresh _ h' b hh (leHE_bk hl hbk)).2⟩
    · intro k k' he he' b hne hk hk' hb1' hb2'
      obtain ⟨g1, hg, hl⟩ := hTm (hmem hk)
      obtain ⟨g1', hg', hl'⟩ := hTm (hmem hk')
      exact h1.apart _ _ g1 g1' b (fun e => hne (hinj k he k' he' (hmem hk) (hmem hk') e)) hg hg' (leHE_bk hl hb1') (leHE_bk hl' hb2')
  refine (hrun w2 _ w vs hcal hpre.out hlens).mono fun e w' he' => ?_
  obtain ⟨ρ3, rfl, hρ3, hone, hex⟩ := he'
  let ρ4 : Nat → Value := rset ρ1 k (ρ3 n0)
  let σ2 : Ren := (n0, k) :: σ
  have hσ0 : Ren.at σ2 n0 = k := by
    show (bif Nat.beq n0 n0 then k else Ren.at σ n0) = k
    rw [Nat.beq_refl]; rfl
  have hσn : ∀ j, j ≠ n0 → Ren.at σ2 j = σ.at j := fun j hj => by
    show (bif Nat.beq j n0 then k else Ren.at σ j) = _
    have e2 : Nat.beq j n0 = false := by
      cases h : Nat.beq j n0
      · rfl
      · exact absurd (Nat.eq_of_beq_eq_true h) hj
    rw [e2]; rfl
  have hkn : ∀ {n he}, s1.hp n = some he → n ≠ k := fun {n he} hn e => by
    have := h1.used n he hn
    rw [e, hku] at this; cases this
  have hρ4 : ∀ {n}, n ≠ k → ρ4 n = ρ1 n := fun hn => rset_other _ _ hn
  have hρ4k : ρ4 k = ρ3 n0 := rset_same _ _ _
  have hdrop : ∀ {n he}, dropN s1.hp (σ.at n0) n = some he → n ≠ σ.at n0 ∧ s1.hp n = some he := fun {n he} hn => by
    unfold dropN at hn
    cases e : Nat.beq n (σ.at n0) with
    | true => rw [e] at hn; cases hn
    | false => rw [e] at hn; exact ⟨fun e2 => (by rw [e2, Nat.beq_refl] at e; cases e), hn⟩
  have hkeep : ∀ {j}, j ≠ n0 → trkd (trks v.heap) j = true → ρ3 j = ρ1 (σ.at j) := fun hj ht => hρ3 _ hj ht
  have hkσ : ∀ {j he}, (j, he) ∈ v.heap → σ.at j ≠ k := fun {j he} hm => by
    obtain ⟨h', hh, _⟩ := hTm hm
    exact hkn hh
  have htr : ∀ {j h'}, assoc v'.heap j = some h' → (trkHE j h').isSome = true → ρ3 j = ρ4 (Ren.at σ2 j) := fun {j h'} g1 hs => by
    by_cases e : j = n0
    · subst e
      rw [hσ0, hρ4k]
    · obtain ⟨h'', hm, e3⟩ := hn2 j h' (assoc_mem g1)
      rw [hσn j e, hρ4 (hkσ hm)]
      exact hkeep e (trkd_iff.2 ⟨h'', hm, by rw [e3]; exact hs⟩)
  have hnew : ∀ {n he}, over σ2 (dropN s1.hp (σ.at n0)) v'.heap n = some he → (∃ j h', assoc v'.heap j = some h' ∧ n = Ren.at σ2 j ∧ he = h'.ren σ2 ∧ simpHE (trks v.heap) h' = true ∧ ((trkHE j h').isSome = true → ρ3 j = ρ4 n)) ∨ ((∀ j h', (j, h') ∈ v.heap → n ≠ σ.at j) ∧ s1.hp n = some he) := fun {n he} ho => by
    rcases over_some ho with ⟨j, h', g1, g2, g3⟩ | ⟨g1, g2⟩
    · exact .inl ⟨j, h', g1, g2, g3, simpH_mem hb5 j h' (assoc_mem g1), fun hs => by rw [g2]; exact htr g1 hs⟩
    · obtain ⟨g3, g4⟩ := hdrop g2
      refine .inr ⟨fun j h' hm => ?_, g4⟩
      by_cases e : j = n0
      · rw [e]; exact g3
      · obtain ⟨h'', hm', _⟩ := hn1 j h' hm
        have := g1 j h'' hm'
        rwa [hσn j e] at this
  have hout : ∀ {n he}, (∀ j h', (j, h') ∈ v.heap → n ≠ σ.at j) → s1.hp n = some he → ∀ b, Bk he (ρ1 n) b → old2 b := fun {n he} hn hh b hB =>
    ⟨(h1.fresh n he b hh hB).2, fun n1 h0 ⟨j, h', hm, e⟩ hh0 hB0 => h1.apart n1 n h0 he b (fun e2 => hn j h' hm (e2.symm.trans e)) hh0 hh hB0 hB⟩
  have hown : ∀ b, ¬ old2 b → b < w.heap.size → ∃ n1 h0, T n1 ∧ s1.hp n1 = some h0 ∧ Bk h0 (ρ1 n1) b := fun b hb hlt =>
    Classical.byContradiction fun hc => hb ⟨hlt, fun n he hT hn hB => hc ⟨n, he, hT, hn, hB⟩⟩
  let s2 : St := { s1 with us := uset s1.us k, hp := over σ2 (dropN s1.hp (σ.at n0)) v'.heap }
  have hus2 : ∀ n, s1.us n = true → s2.us n = true := fun n hn => uset_of hn
  have hus2k : s2.us k = true := uset_same _ _
  have hunder : Under σ2 (trks v.heap) (cx w2 ρ3 (hpOf v'.heap) w') (cx w1 ρ4 s2 w') := by
    refine ⟨fun j hj => ?_, fun j hj => ?_, fun b hS => ⟨⟨hS.1, fun n he hn hB => ?_, ?_⟩, rfl⟩⟩
    · by_cases e : j = n0
      · subst e
        show ρ4 (Ren.at σ2 j) = ρ3 j
        rw [hσ0, hρ4k]
      · obtain ⟨h', hm, _⟩ := trkd_iff.1 hj
        show ρ4 (Ren.at σ2 j) = ρ3 j
        rw [hσn j e, hρ4 (hkσ hm)]
        exact (hkeep e hj).symm
    · by_cases e : j = n0
      · subst e
        show s2.us (Ren.at σ2 j) = true
        rw [hσ0]; exact hus2k
      · obtain ⟨h', hm, _⟩ := trkd_iff.1 hj
        obtain ⟨h'', hh, _⟩ := hTm hm
        show s2.us (Ren.at σ2 j) = true
        rw [hσn j e]
        exact hus2 _ (h1.used _ h'' hh)
    · rcases hnew hn with ⟨j, h', g1, g2, g3, g4, g5⟩ | ⟨g1, g2⟩
      · rw [g3] at hB
        exact hS.2.1 j h' g1 (bk_of g4 (fun hs => (g5 hs).symm) (ren_bk.1 hB))
      · rw [hρ4 (hkn g2)] at hB
        exact (hS.2.2 (hout g1 g2 b hB)).2.1 n he g2 hB
    · by_cases ho : old2 b
      · exact (hS.2.2 ho).2.2
      · rcases Nat.lt_or_ge b w.heap.size with hlt | hge
        · obtain ⟨n1, h0, _, hh, hB⟩ := hown b ho hlt
          exact w1.all b (h1.fresh n1 h0 b hh hB).1
        · exact w1.all b (h1.newold hge)
  have hTσ : ∀ {j h'}, (j, h') ∈ v'.heap → (T (Ren.at σ2 j) ∨ Ren.at σ2 j = k) ∧ s2.us (Ren.at σ2 j) = true := fun {j h'} hm => by
    by_cases e : j = n0
    · rw [e, hσ0]; exact ⟨.inr rfl, hus2k⟩
    · obtain ⟨h'', hm', _⟩ := hn2 j h' hm
      obtain ⟨h3, hh, _⟩ := hTm hm'
      rw [hσn j e]
      exact ⟨.inl ⟨j, h'', hm', rfl⟩, hus2 _ (h1.used _ h3 hh)⟩
  have hok3 : Ok w1 ρ4 s2 { tmps := vs, defers := [] } w' := by
    refine Ok.step (fun n => T n ∨ n = k) h1 rfl rfl hus2 (fun n hn => hρ4 (fun e => by rw [e, hku] at hn; cases hn)) ⟨hex.below.os, hex.below.tape, hex.below.output, hex.below.size, fun b hb => hex.below.block b ⟨h1.oldlt hb, fun n he _ hn hB => (h1.fresh n he b hn hB).1 hb⟩⟩
      (fun n hT => ?_) (fun b hb hnb => hex.below.block b ⟨hb, fun n he hT hn => hnb n he (.inl hT) hn⟩) (fun n he b hT hn hB => ?_) (fun n he hT hn => ?_) (fun n n' he he' b hne hT hT' hn hn' hB hB' => ?_) (fun n he hT hn _ => ?_)
    · show over σ2 (dropN s1.hp (σ.at n0)) v'.heap n = s1.hp n
      rw [over_none (fun j h' hm e => ?_)]
      · unfold dropN
        cases e : Nat.beq n (σ.at n0) with
        | false => rfl
        | true =>
          exfalso
          obtain ⟨he0, hm0⟩ : ∃ h', (n0, h') ∈ v'.heap := by
            cases ha : assoc v'.heap n0 with
            | none => rw [ha] at hr0; cases hr0
            | some h' => exact ⟨h', assoc_mem ha⟩
          obtain ⟨h'', hm', _⟩ := hn2 n0 he0 hm0
          exact hT (.inl ⟨n0, h'', hm', Nat.eq_of_beq_eq_true e⟩)
      · rcases (hTσ hm).1 with h | h
        · exact hT (.inl (by rw [e]; exact h))
        · exact hT (.inr (by rw [e]; exact h))
    · rcases hnew hn with ⟨j, h', g1, g2, g3, g4, g5⟩ | ⟨g1, g2⟩
      · rw [g3] at hB
        have hf := hex.fresh j h' b g1 (bk_of g4 (fun hs => (g5 hs).symm) (ren_bk.1 hB))
        rcases Nat.lt_or_ge b w.heap.size with hlt | hge
        · obtain ⟨n1, h0, q1, q2, q3⟩ := hown b hf.1 hlt
          exact .inl ⟨n1, h0, .inl q1, q2, q3⟩
        · exact .inr ⟨hge, hf.2⟩
      · rcases hT with ⟨j, h', hm, e⟩ | e
        · exact absurd e (g1 j h' hm)
        · exact absurd e (hkn g2)
    · rcases hnew hn with ⟨j, h', g1, g2, _⟩ | ⟨_, g2⟩
      · rw [g2]; exact (hTσ (assoc_mem g1)).2
      · exact hus2 _ (h1.used _ _ g2)
    · have hout' : ∀ {n he}, (T n ∨ n = k) → ¬ ((∀ j h', (j, h') ∈ v.heap → n ≠ σ.at j) ∧ s1.hp n = some he) := fun {n he} hT hc => by
        rcases hT with ⟨j, h', hm, e⟩ | e
        · exact hc.1 j h' hm e
        · exact hkn hc.2 e
      rcases hnew hn with ⟨j, h', g1, g2, g3, g4, g5⟩ | hc
      · rcases hnew hn' with ⟨j', h'', f1, f2, f3, f4, f5⟩ | hc
        · rw [g3] at hB
          rw [f3] at hB'
          exact hex.apart j j' h' h'' b (fun e => hne (by rw [g2, f2, e])) g1 f1 (bk_of g4 (fun hs => (g5 hs).symm) (ren_bk.1 hB)) (bk_of f4 (fun hs => (f5 hs).symm) (ren_bk.1 hB'))
        · exact absurd hc (hout' hT')
      · exact absurd hc (hout' hT)
    · rcases hnew hn with ⟨j, h', g1, g2, g3, g4, g5⟩ | ⟨g1, g2⟩
      · rw [g3, g2]
        exact HEc.ren hunder rfl g4 (fun hs => by rw [← g2]; exact (g5 hs).symm) (hex.heap j h' g1)
      · rcases hT with ⟨j, h', hm, e⟩ | e
        · exact absurd e (g1 j h' hm)
        · exact absurd e (hkn g2)
  subst hw1
  refine ⟨ρ3 n0, _, _, ρ4, rfl, h.leave (s' := s2) hok3 hb7, ?_, hK⟩
  exact SVc.of1 (p := .row k) rfl ⟨hus2k, by show [ρ3 n0] = [ρ4 k]; rw [hρ4k], by show (ρ4 k).oneCell' = true; rw [hρ4k]; exact hone⟩

theorem constFs_c {c : Cx} : ∀ {args : List SV} {l : List Nat} {vs : List Value}, constFs args = some l → argsC c args vs → vs = l.map fun f => .func (.func f) #[] #[]
  | [], l, [], e, _ => by cases e; rfl
  | x :: r, l, v :: vs, e, ha => by
    unfold constFs at e
    split at e
    · rename_i h; cases h
    · rename_i h' fs cs r' hx
      injection hx with hx1 hx2
      subst hx1; subst hx2
      cases hb : (fs.isEmpty && cs.isEmpty) with
      | false => rw [hb] at e; cases e
      | true =>
        rw [hb] at e
        simp only [cond_true] at e
        split at e
        · rename_i l' e'
          cases e
          simp only [Bool.and_eq_true, Array.isEmpty_iff] at hb
          have h1 := SVc.one1 (p := .con (.func (.func h') fs cs)) rfl (by simp) ha.1
          have h2 : v = .func (.func h') fs cs := by simpa using h1.1
          rw [hb.1, hb.2] at h2
          rw [h2, constFs_c e' ha.2]
          rfl
        · cases e
    · cases e
  | [], _, _ :: _, _, ha => ha.elim
  | _ :: _, _, [], _, ha => ha.elim
theorem splitX_sound (hX : FxAll P X) {g : Nat} {c : Ctr} {args l : List SV} {s : St} (hsp : splitX X s g args = some (c, l)) {K : SV → St → Prop} {w0 : Base} {ρ : Nat → Value} {a : Act} {w : World} {vs : Array Value} (h : Ok w0 ρ s a w)
    {k : Nat} (hargs : argsC (cx w0 ρ s w) args vs.toList) (hk : ctrS c k s l K) :
    Callable P g ∧ Calls P g vs w (fun e w' => ∃ v sv s' ρ', e = .returned v ∧ Ok w0 ρ' s' a w' ∧ SVc (cx w0 ρ' s' w') sv v ∧ K sv s') := by
  obtain ⟨us⟩ := vs
  unfold splitX at hsp
  split at hsp
  · rename_i r
    split at hsp
    · rename_i c' hkn
      cases hsp
      have hc := hX.ctrN g c hkn
      refine ⟨hc.1, ?_⟩
      match us, hargs with
      | [], hargs => exact hargs.elim
      | v :: us, hargs =>
        have h1 := SVc.one1 (p := .con (.slice none 0 0)) rfl (by simp) hargs.1
        have h2 : v = .slice none 0 0 := by simpa using h1.1
        subst h2
        exact ctrS_soundH (vs := us.toArray) (fun S x h1 h2 h3 h4 => hc.2 S w us x h1 h2 h3 h4) h hargs.2 hk
    · cases hsp
  · rename_i kc r
    split at hsp
    · rename_i hh b hkc
      split at hsp
      · rename_i p hbx
        cases hag : p.agg with
        | true => rw [hag] at hsp; cases hsp
        | false =>
          rw [hag] at hsp
          simp only [cond_false] at hsp
          split at hsp
          · rename_i fs hfs
            split at hsp
            · rename_i c' hkcc
              cases hsp
              have hc := hX.ctrC g hh fs c hkcc
              refine ⟨hc.1, ?_⟩
              match us, hargs with
              | [], hargs => exact hargs.elim
              | v :: us, hargs =>
                have h1 := SVc.one1 (p := .clo kc) rfl (by simp) hargs.1
                have h2 : v = ρ kc := (List.cons.inj h1.2.1).1
                obtain ⟨cvs, g1, g2, g3, _⟩ := h.heap kc _ hkc
                obtain ⟨bb, e, cs, k1, k2, k3⟩ := h.heap b _ hbx
                have g1 : ρ kc = .func (.func hh) #[] cvs := g1
                have k1 : ρ b = .pointer (some ⟨bb, 0, none⟩) := k1
                obtain ⟨x1, x2, g5, ⟨_, b2, g6, g7⟩, g8⟩ := g2
                have g6 : ρ b = .pointer (some ⟨b2, 0, none⟩) := g6
                rw [k1] at g6
                injection g6 with g6; injection g6 with g6; injection g6 with g6
                subst g6
                have g8 : x2 = [] := g8
                subst g8
                have g9 : cvs = #[.pointer (some ⟨bb, 0, none⟩)] := by
                  apply Array.ext'
                  rw [g5, g7]; rfl
                obtain ⟨y1, y2, k5, k6, k7⟩ := k3
                have k7 : y2 = [] := k7
                subst k7
                have hl := k6.len
                have hsz : p.size = 1 := by
                  cases p with
                  | d t x => cases t <;> first | rfl | cases hag
                  | orp _ _ _ => cases hag
                  | _ => rfl
                rw [hsz] at hl
                match y1, hl with
                | [u], _ =>
                  have k8 : cs = #[u] := by apply Array.ext'; rw [k5]; rfl
                  subst k8
                  subst g9
                  rw [g1] at h2
                  subst h2
                  have hf := constFs_c hfs hargs.2
                  subst hf
                  refine ctrS_soundH (vs := #[u]) (fun S x h1 h2 h3 h4 => hc.2 S w bb e u x h1 h2 k2 h3 h4) h ?_ hk
                  exact ⟨SVc.of1 hag k6, trivial⟩
            · cases hsp
          · cases hsp
      · cases hsp
    · cases hsp
  · cases hsp

theorem call_some {n k g : Nat} {c : Ctr} {args : List SV} {s : St} {K : SV → St → Prop} (h : X.K g = some c) : call X n k g args s K = ctrS c k s args K := by
  unfold call; rw [h]
theorem call_split {n k g : Nat} {c : Ctr} {args l : List SV} {s : St} {K : SV → St → Prop} (h : X.K g = none) (h' : splitF X g args = some (c, l)) : call X n k g args s K = ctrS c k s l K := by
  unfold call; rw [h, h']
theorem call_x {n k g : Nat} {c : Ctr} {args l : List SV} {s : St} {K : SV → St → Prop} (h : X.K g = none) (h' : splitF X g args = none) (hx : splitX X s g args = some (c, l)) : call X n k g args s K = ctrS c k s l K := by
  unfold call; rw [h, h', hx]
theorem call_prc {n k g : Nat} {p : Prc} {args : List SV} {s : St} {K : SV → St → Prop} (h : X.K g = none) (h' : splitF X g args = none) (hx : splitX X s g args = none) (h2 : X.PR g = some p) : call X n k g args s K = prcS p args s K := by
  unfold call; rw [h, h', hx, h2]
theorem call_po {n k g : Nat} {q : Prc × Nat} {args : List SV} {s : St} {K : SV → St → Prop} (h : X.K g = none) (h' : splitF X g args = none) (hx : splitX X s g args = none) (h2 : X.PR g = none) (h3 : X.PO g = some q) : call X n k g args s K = prcO q.1 q.2 k args s K := by
  unfold call; rw [h, h', hx, h2, h3]
theorem call_zero {k g : Nat} {args : List SV} {s : St} {K : SV → St → Prop} (h : X.K g = none) (h' : splitF X g args = none) (hx : splitX X s g args = none) (h2 : X.PR g = none) (h3 : X.PO g = none) : call X 0 k g args s K = False := by
  unfold call; rw [h, h', hx, h2, h3]
theorem call_succ {n k g : Nat} {args : List SV} {s : St} {K : SV → St → Prop} (h : X.K g = none) (h' : splitF X g args = none) (hx : splitX X s g args = none) (h2 : X.PR g = none) (h3 : X.PO g = none) : call X (n + 1) k g args s K = (match X.fn g with
        | some fn => (match fn.body with
          | some c => bif Nat.ble args.length fn.ntmps then
              code X (call X n) g c { s with fr := args ++ pad (fn.ntmps - args.length), bk := s.fr ++ s.bk } (fun e s' => match e with
                | .exit _ => False
                | _ => (match resS X.E s' fn.results.toList with
                  | some v => bif lenLe s.fr s'.bk then K v { s' with fr := takeL s.fr s'.bk, bk := dropL s.fr s'.bk } else False
                  | none => False)) else False
          | none => False)
        | none => False) := by
  conv => lhs; unfold call
  rw [h, h', hx, h2, h3]
  rfl
theorem call_sound (h : FxAll P X) (n : Nat) : CallOk P (call X n) := by
  induction n with
  | zero =>
    intro k g args s K w0 ρ a w vs hok hargs hk
    cases hcg : X.K g with
    | some c =>
      rw [call_some hcg] at hk
      exact ⟨(h.ctr g c hcg).1, ctrS_sound (h.ctr g c hcg) hok hargs hk⟩
    | none =>
      cases hsp : splitF X g args with
      | some cl => rw [call_split hcg hsp] at hk; exact splitF_sound h hsp hok hargs hk
      | none =>
        cases hx : splitX X s g args with
        | some cl => rw [call_x hcg hsp hx] at hk; exact splitX_sound h hx hok hargs hk
        | none =>
        cases hpr : X.PR g with
        | some p => rw [call_prc hcg hsp hx hpr] at hk; exact ⟨(h.prc g p hpr).1, prcS_sound (h.prc g p hpr) hok hargs hk⟩
        | none =>
        cases hpo : X.PO g with
        | some q => rw [call_po hcg hsp hx hpr hpo] at hk; exact ⟨(h.po g q hpo).1, prcO_sound (h.po g q hpo) hok hargs hk⟩
        | none => rw [call_zero hcg hsp hx hpr hpo] at hk; exact hk.elim
  | succ n ih =>
    intro k g args s K w0 ρ a w vs hok hargs hk
    cases hcg : X.K g with
    | some c =>
      rw [call_some hcg] at hk
      exact ⟨(h.ctr g c hcg).1, ctrS_sound (h.ctr g c hcg) hok hargs hk⟩
    | none =>
      cases hsp : splitF X g args with
      | some cl => rw [call_split hcg hsp] at hk; exact splitF_sound h hsp hok hargs hk
      | none =>
        cases hx : splitX X s g args with
        | some cl => rw [call_x hcg hsp hx] at hk; exact splitX_sound h hx hok hargs hk
        | none =>
        cases hpr : X.PR g with
        | some p => rw [call_prc hcg hsp hx hpr] at hk; exact ⟨(h.prc g p hpr).1, prcS_sound (h.prc g p hpr) hok hargs hk⟩
        | none =>
        cases hpo : X.PO g with
        | some q => rw [call_po hcg hsp hx hpr hpo] at hk; exact ⟨(h.po g q hpo).1, prcO_sound (h.po g q hpo) hok hargs hk⟩
        | none =>
        rw [call_succ hcg hsp hx hpr hpo] at hk
        split at hk
        · rename_i fn hfn
          obtain ⟨hf1, hf2⟩ := h.fn g fn hfn
          split at hk
          · rename_i c hbody
            refine ⟨⟨fn, hf1, hf2, by rw [hbody]; rfl⟩, ?_⟩
            cases hle : Nat.ble args.length fn.ntmps with
            | false => rw [hle] at hk; exact hk.elim
            | true =>
              rw [hle] at hk
              simp only [cond_true] at hk
              have hble := Nat.le_of_ble_eq_true hle
              have hal : args.length = vs.size := by simpa using (argsC_get hargs).1
              let w1 : Base := { w0 with bv := a.tmps.toList ++ w0.bv }
              have hok1 : Ok w1 ρ { s with fr := args ++ pad (fn.ntmps - args.length), bk := s.fr ++ s.bk } { tmps := vs ++ Array.replicate (fn.ntmps - vs.size) undef, defers := [] } w :=
                { defers := rfl, below := hok.below, len := by simp [pad_length]; omega, frame := fun i => enter_frame (c := cx w0 ρ s w) hargs i,
                  back := fun i => by
                    show SVc (cx w0 ρ s w) (lget (s.fr ++ s.bk) i) ((a.tmps.toList ++ w0.bv).getD i undef)
                    rw [lget_append]
                    have hlen : s.fr.length = a.tmps.toList.length := by rw [hok.len]; simp
                    by_cases hi : i < s.fr.length
                    · rw [if_pos hi]
                      have := hok.frame i
                      have e : (a.tmps.toList ++ w0.bv).getD i undef = a.tmps.getD i undef := by
                        have hlt : i < a.tmps.size := by rw [← hok.len]; exact hi
                        simp [List.getElem?_append, hlt]
                      rw [e]; exact this
                    · rw [if_neg hi]
                      have := hok.back (i - s.fr.length)
                      have e : (a.tmps.toList ++ w0.bv).getD i undef = w0.bv.getD (i - s.fr.length) undef := by
                        rw [hlen] at hi ⊢
                        rw [List.getD, List.getD, List.getElem?_append_right (by omega)]
                      rw [e]; exact this
                  heap := hok.heap, used := hok.used, fresh := hok.fresh, apart := hok.apart }
              have hcode := code_sound (f := g) (w0 := w1) h.ok ih ⟨fun k' g' c' hc' args' s' K' hh => by rw [call_some hc']; exact hh, fun k' g' c' args' l' hc' hsp' s' K' hh => by rw [call_split hc' hsp']; exact hh⟩ c _ _ hk ρ _ w hok1
              refine calls_of_wp hf1 hbody (wp_mono hcode fun e a' w' hq => ?_)
              have fin : ∀ ρ' s', Ok w1 ρ' s' a' w' → (match resS X.E s' fn.results.toList with
                  | some v => bif lenLe s.fr s'.bk then K v { s' with fr := takeL s.fr s'.bk, bk := dropL s.fr s'.bk } else False
                  | none => False) →
                  a'.defers = [] ∧ ∃ v, (results fn a'.tmps).run P w' = .ok v w' ∧ ∃ v2 sv s2 ρ2, Ending.returned v = Ending.returned v2 ∧ Ok w0 ρ2 s2 a w' ∧ SVc (cx w0 ρ2 s2 w') sv v2 ∧ K sv s2 := fun ρ' s' ho hr => by
                split at hr
                · rename_i sv hsv
                  cases hll : lenLe s.fr s'.bk with
                  | false => rw [hll] at hr; exact hr.elim
                  | true =>
                    rw [hll] at hr
                    simp only [cond_true] at hr
                    have hlen := lenLe_le hll
                    obtain ⟨v, h1, h2⟩ := resS_c (P := P) h.ok.env ho hsv
                    refine ⟨ho.defers, v, h1, v, sv, { s' with fr := takeL s.fr s'.bk, bk := dropL s.fr s'.bk }, ρ', rfl, ?_, h2, hr⟩
                    have hlen2 : s.fr.length = a.tmps.toList.length := by rw [hok.len]; simp
                    exact {
                            defers := hok.defers, below := ho.below, len := by rw [takeL_eq, List.length_take, Nat.min_eq_left hlen]; exact hok.len,
                            frame := fun i => by
                              show SVc (cx w0 ρ' s' w') (lget (takeL s.fr s'.bk) i) (a.tmps.getD i undef)
                              rw [takeL_eq]
                              by_cases hi : i < s.fr.length
                              · rw [lget_take _ _ _ hi]
                                have := ho.back i
                                have e : w1.bv.getD i undef = a.tmps.getD i undef := by
                                  have hlt : i < a.tmps.size := by rw [← hok.len]; exact hi
                                  show (a.tmps.toList ++ w0.bv).getD i undef = _
                                  simp [List.getElem?_append, hlt]
                                rw [e] at this; exact this
                              · have e : lget (s'.bk.take s.fr.length) i = .one .any := by
                                  have hlt : (s'.bk.take s.fr.length).length ≤ i := by rw [List.length_take]; omega
                                  generalize s'.bk.take s.fr.length = l at hlt
                                  clear hi hlen2 hlen h2 h1 hsv hll hr
                                  induction l generalizing i with
                                  | nil => rfl
                                  | cons x l ih =>
                                    cases i with
                                    | zero => simp at hlt
                                    | succ i => exact ih i (by simpa using hlt)
                                rw [e]; trivial
                            back := fun i => by
                              show SVc (cx w0 ρ' s' w') (lget (dropL s.fr s'.bk) i) (w0.bv.getD i undef)
                              rw [dropL_eq, lget_drop]
                              have := ho.back (s.fr.length + i)
                              have e : w1.bv.getD (s.fr.length + i) undef = w0.bv.getD i undef := by
                                show (a.tmps.toList ++ w0.bv).getD (s.fr.length + i) undef = _
                                rw [hlen2, List.getD, List.getD, List.getElem?_append_right (by omega)]
                                congr 2; omega
                              rw [e] at this; exact this
                            heap := ho.heap, used := ho.used, fresh := ho.fresh, apart := ho.apart }
                · exact hr.elim
              cases e with
              | normal => obtain ⟨ρ', s', ho, hr⟩ := hq; exact fin ρ' s' ho hr
              | ret => obtain ⟨ρ', s', ho, hr⟩ := hq; exact fin ρ' s' ho hr
              | exit id => obtain ⟨ρ', s', ho, hr⟩ := hq; exact hr.elim
              | goto l => exact hq.elim
              | panic c => exact hq.elim
              | outgrown => exact hq.elim
          · exact hk.elim
        · exact hk.elim

def Lens : (t : Ty) → t.D → Prop
  | .sl t, xs => xs.length ≤ 9223372036854775807 ∧ ∀ x ∈ xs, Lens t x
  | .arr n t, xs => xs.length = n ∧ ∀ x ∈ xs, Lens t x
  | .pair a b, x => Lens a x.1 ∧ Lens b x.2
  | .int k, n => IR k n
  | .str, l => isBytes l
  | .bool, _ => True
  | .ref _, a => (0 : Int) ≤ (a : Int) + 1 ∧ True
  | .err, _ => True
  | .mp kk t, xs => ∀ e ∈ xs, IR kk e.1 ∧ Lens t e.2
def LensL : (ts : List Ty) → HL ts → Prop
  | [], _ => True
  | t :: ts, x => Lens t x.1 ∧ LensL ts x.2
theorem neg_le_zero : (-1 : Int) ≤ 0 := by decide
theorem Rd.lens {S : Nat → Prop} {w : World} : ∀ {t : Ty} {cs : List Value} {x : t.D}, Rd S w t cs x → Lens t x
  | .int _, _, _, h => h.2
  | .bool, _, _, _ => trivial
  | .str, _, _, h => h.2
  | .ref _, _, x, h => by
    rcases h with ⟨h, _⟩ | ⟨h, _⟩
    · have h : @Eq Int x (-1) := h
      refine ⟨?_, trivial⟩
      show (0 : Int) ≤ (x : Int) + 1
      omega
    · have h : (0 : Int) ≤ x := h
      refine ⟨?_, trivial⟩
      show (0 : Int) ≤ (x : Int) + 1
      omega
  | .err, _, _, _ => trivial
  | .mp kk t, _, xs, h => by
    rcases h with ⟨h, _⟩ | ⟨b, es, clock, _, _, _, _, h5⟩
    · subst h; exact fun e he => by cases he
    · intro x hx
      obtain ⟨i, hi⟩ := List.mem_iff_getElem?.1 hx
      obtain ⟨e, _, _, g3, g4⟩ := h5 i x hi
      exact ⟨g3, g4.lens⟩
  | .sl t, _, xs, h => by
    obtain ⟨A, c, _, h2, h3, h4⟩ := h
    refine ⟨by simp only [maxLen] at h3; omega, fun x hx => ?_⟩
    obtain ⟨i, hi⟩ := List.mem_iff_getElem?.1 hx
    have hp : 0 < xs.length := by
      cases xs with
      | nil => cases hx
      | cons _ _ => simp
    obtain ⟨b, q, _, _, hr⟩ := h4 hp
    obtain ⟨l, _, hl⟩ := hr i x hi
    exact hl.lens
  | .arr n t, _, xs, h => by
    refine ⟨h.1, fun x hx => ?_⟩
    obtain ⟨i, hi⟩ := List.mem_iff_getElem?.1 hx
    exact (h.2.2 i x hi).lens
  | .pair a b, _, _, h => by
    obtain ⟨l, m, _, h1, h2⟩ := h
    exact ⟨h1.lens, h2.lens⟩
theorem RdV.lens {S : Nat → Prop} {w : World} {t : Ty} {v : Value} {x : t.D} (h : RdV S w t v x) : Lens t x := by
  unfold RdV at h
  cases hg : t.agg <;> rw [hg] at h
  · exact Rd.lens h
  · obtain ⟨cs, _, h⟩ := h; exact h.lens
theorem RdVs.lens {S : Nat → Prop} {w : World} : ∀ {ts : List Ty} {vs : List Value} {x : HL ts}, RdVs S w ts vs x → LensL ts x
  | [], [], _, _ => trivial
  | _ :: _, _ :: _, _, h => ⟨h.1.lens, RdVs.lens h.2⟩
  | [], _ :: _, _, h => h.elim
  | _ :: _, [], _, h => h.elim

theorem argsV_c {c : Cx} : ∀ {ts : List Ty} {vs : List Value} {x : HL ts}, RdVs c.S c.w ts vs x → argsC c (argsV ts x) vs
  | [], [], _, _ => trivial
  | _ :: _, _ :: _, _, h => ⟨h.1.sv, argsV_c h.2⟩
  | [], _ :: _, _, h => h.elim
  | _ :: _, [], _, h => h.elim
theorem argsV_length : ∀ {ts : List Ty} {x : HL ts}, (argsV ts x).length = ts.length
  | [], _ => rfl
  | _ :: _, _ => by simp [argsV, argsV_length]

theorem eqHL_eq : ∀ {ts : List Ty} {x y : HL ts}, eqHL ts x y → x = y
  | [], _, _, _ => rfl
  | [_], (a, ()), (b, ()), h => by
    have h : a = b := h
    rw [h]
  | _ :: _ :: _, (a, x), (b, y), h => by
    obtain ⟨h1, h2⟩ := h
    have h1 : a = b := h1
    have h2 : x = y := eqHL_eq h2
    rw [h1, h2]

theorem rdGo_c {w0 : Base} {ρ : Nat → Value} {s : St} {a : Act} {w : World} {S : Nat → Prop} (h : Ok w0 ρ s a w) (hS : ∀ b, b < w.heap.size → w0.S b → S b) :
    ∀ {ts : List Ty} {es : List (Bool × List PV)} {vs : List Value} {x : HL ts}, rdRes.go s ts es = some x → tupC (cx w0 ρ s w) es vs → RdVs S w ts vs x
  | [], [], vs, x, hr, ht => by
    have ht : vs = [] := ht
    subst ht; trivial
  | t :: ts, e :: es, vs, x, hr, ht => by
    obtain ⟨v, r, rfl, h1, h2⟩ := ht
    unfold rdRes.go at hr
    cases hx : Bool.xor e.1 t.agg with
    | true => rw [hx] at hr; cases hr
    | false =>
      rw [hx] at hr
      simp only [cond_false] at hr
      have hag : e.1 = t.agg := by cases e1 : e.1 <;> cases e2 : t.agg <;> rw [e1, e2] at hx <;> first | rfl | cases hx
      split at hr
      · rename_i y hy
        split at hr
        · rename_i z hz
          injection hr with hr
          subst hr
          refine ⟨?_, rdGo_c h hS hz h2⟩
          have hp := psParts_c (aggC_cells h1)
          have hrd : Rd S w t v.cells.toList y := rdAll_c (c := ⟨ρ, s.us, S, w⟩) hy (resPs_c h hS hp)
          unfold RdV
          rw [hag] at h1
          cases hg : t.agg with
          | true =>
            rw [hg] at h1
            obtain ⟨cs, e, _⟩ := h1
            rw [e] at hrd
            exact ⟨cs, e, hrd⟩
          | false =>
            rw [hg] at h1
            have h1 : PsC (cx w0 ρ s w) e.2 [v] := h1
            have hone := h1.one v (by simp)
            have : v.cells.toList = [v] := by cases v <;> first | rfl | cases hone
            rw [this] at hrd
            exact hrd
        · cases hr
      · cases hr
  | [], _ :: _, _, _, hr, _ => by cases hr
  | _ :: _, [], _, _, hr, _ => by cases hr
theorem rdRes_c {w0 : Base} {ρ : Nat → Value} {s : St} {a : Act} {w : World} {S : Nat → Prop} (h : Ok w0 ρ s a w) (hS : ∀ b, b < w.heap.size → w0.S b → S b) {ts : List Ty} {sv : SV} {v : Value} {x : HL ts}
    (hr : rdRes s ts sv = some x) (hv : SVc (cx w0 ρ s w) sv v) : ResV S w ts v x := by
  match ts, x, hr with
  | [t], x, hr =>
    have hr' : (match rdArg s true t sv with
      | some x => some ((x, ()) : HL [t])
      | none => none) = some x := by cases sv <;> exact hr
    split at hr'
    · rename_i y hy
      injection hr' with hr'
      subst hr'
      exact rdArg_c h hS (bor := true) hv hy
    · cases hr'
  | [], x, hr =>
    cases sv with
    | tup es =>
      obtain ⟨vs, e, ht⟩ := hv
      exact ⟨vs, e, rdGo_c h hS (ts := []) hr ht⟩
    | one p => cases hr
    | agg ps => cases hr
    | cnd _ _ => cases hr
  | t :: u :: ts, x, hr =>
    cases sv with
    | tup es =>
      obtain ⟨vs, e, ht⟩ := hv
      exact ⟨vs, e, rdGo_c h hS (ts := t :: u :: ts) hr ht⟩
    | one p => cases hr
    | agg ps => cases hr
    | cnd _ _ => cases hr

theorem res_c2 {w0 : Base} {ρ : Nat → Value} {s : St} {a : Act} {w : World} {S : Nat → Prop} {p0 : PV} (h : Ok w0 ρ s a w) (hF : ∀ b, Free w0 ρ s.hp w b → S b)
    (hN : ∀ j he b, (∀ k, p0 = .row k → j ≠ k) → s.hp j = some he → Bk he (ρ j) b → S b) {p : PV} (hr : restOk p0 p = true) {l : List Value} (hp : PVc (cx w0 ρ s w) p l) : PVc ⟨ρ, s.us, S, w⟩ (PV.res s p) l := by
  have hle : (cx w0 ρ s w).le ⟨ρ, s.us, S, w⟩ := ⟨fun _ hk => hk, fun _ _ => rfl, fun b hb => ⟨hF b hb, rfl⟩⟩
  have hmono := hp.mono hle
  cases p with
  | sub k k' sz x y => cases hr
  | bsl k off n sz => cases hr
  | row k =>
    have hne : ∀ k', p0 = .row k' → k ≠ k' := fun k' e => by
      subst e
      intro e2
      subst e2
      simp [restOk] at hr
    simp only [PV.res]
    split
    · rename_i t xs hk
      obtain ⟨_, hl, _⟩ := hp
      rcases h.heap k _ hk with ⟨h1, rfl⟩ | ⟨b, o, cp, cur, e, h1, h2, h3, h4, h5, h6⟩
      · exact ⟨none, 0, by rw [hl, h1]; rfl, Nat.le_refl _, by simp [maxLen], fun h => absurd h (by simp)⟩
      · refine ⟨_, cp, by rw [hl, h1], h3, h4, fun _ => ⟨b, o, rfl, hN k _ b hne hk (by show blkOf (ρ k) = _; rw [show ρ k = _ from h1]; rfl), fun i x hx => ⟨_, fun j v hv => ?_, Rd.mono hle.keep (h6 i x hx)⟩⟩⟩
        have := At.of_block h2 (o + i * t.size) t.size j v hv
        rwa [Nat.add_assoc] at this
    · rename_i kk t xs hk
      obtain ⟨_, hl, _⟩ := hp
      obtain ⟨b, es, clock, h1, h2, h3, _⟩ := h.heap k _ hk
      have h3' := (MapC.keep (c' := ⟨ρ, s.us, S, w⟩) hle.keep h3).to
      exact .inr ⟨b, es, clock, by rw [hl, h1], hN k _ b hne hk (by show blkOf (ρ k) = _; rw [show ρ k = _ from h1]; rfl), h2, h3'.1, h3'.2⟩
    · exact hmono
  | _ => exact hmono
theorem resPs_c2 {w0 : Base} {ρ : Nat → Value} {s : St} {a : Act} {w : World} {S : Nat → Prop} {p0 : PV} (h : Ok w0 ρ s a w) (hF : ∀ b, Free w0 ρ s.hp w b → S b)
    (hN : ∀ j he b, (∀ k, p0 = .row k → j ≠ k) → s.hp j = some he → Bk he (ρ j) b → S b) : ∀ {ps : List PV} {l : List Value}, ps.all (restOk p0) = true → PsC (cx w0 ρ s w) ps l → PsC ⟨ρ, s.us, S, w⟩ (ps.map (PV.res s)) l
  | [], _, _, hp => hp
  | _ :: _, _, hr, ⟨l1, l2, e, h1, h2⟩ => by
    simp only [List.all_cons, Bool.and_eq_true] at hr
    exact ⟨l1, l2, e, res_c2 h hF hN hr.1 h1, resPs_c2 h hF hN hr.2 h2⟩
theorem rdGo_c2 {w0 : Base} {ρ : Nat → Value} {s : St} {a : Act} {w : World} {S : Nat → Prop} {p0 : PV} (h : Ok w0 ρ s a w) (hF : ∀ b, Free w0 ρ s.hp w b → S b)
    (hN : ∀ j he b, (∀ k, p0 = .row k → j ≠ k) → s.hp j = some he → Bk he (ρ j) b → S b) :
    ∀ {ts : List Ty} {es : List (Bool × List PV)} {vs : List Value} {x : HL ts}, restOkE p0 es = true → rdRes.go s ts es = some x → tupC (cx w0 ρ s w) es vs → RdVs S w ts vs x
  | [], [], vs, x, _, hr, ht => by
    have ht : vs = [] := ht
    subst ht; trivial
  | t :: ts, e :: es, vs, x, ho, hr, ht => by
    obtain ⟨v, r, rfl, h1, h2⟩ := ht
    simp only [restOkE, Bool.and_eq_true] at ho
    unfold rdRes.go at hr
    cases hx : Bool.xor e.1 t.agg with
    | true => rw [hx] at hr; cases hr
    | false =>
      rw [hx] at hr
      simp only [cond_false] at hr
      have hag : e.1 = t.agg := by cases e1 : e.1 <;> cases e2 : t.agg <;> rw [e1, e2] at hx <;> first | rfl | cases hx
      split at hr
      · rename_i y hy
        split at hr
        · rename_i z hz
          injection hr with hr
          subst hr
          refine ⟨?_, rdGo_c2 h hF hN ho.2 hz h2⟩
          have hp := psParts_c (aggC_cells h1)
          have hrd : Rd S w t v.cells.toList y := rdAll_c (c := ⟨ρ, s.us, S, w⟩) hy (resPs_c2 h hF hN ho.1 hp)
          unfold RdV
          rw [hag] at h1
          cases hg : t.agg with
          | true =>
            rw [hg] at h1
            obtain ⟨cs, e, _⟩ := h1
            rw [e] at hrd
            exact ⟨cs, e, hrd⟩
          | false =>
            rw [hg] at h1
            have h1 : PsC (cx w0 ρ s w) e.2 [v] := h1
            have hone := h1.one v (by simp)
            have : v.cells.toList = [v] := by cases v <;> first | rfl | cases hone
            rw [this] at hrd
            exact hrd
        · cases hr
      · cases hr
  | [], _ :: _, _, _, _, hr, _ => by cases hr
  | _ :: _, [], _, _, _, hr, _ => by cases hr
theorem rowOf_c {w0 : Base} {ρ : Nat → Value} {s : St} {a : Act} {w : World} (h : Ok w0 ρ s a w) (hold : ∀ b, ¬ w0.old b → w0.w.heap.size ≤ b) {t : Ty} {S : Nat → Prop} {p : PV} {v : Value} {xs : List t.D} (hS : ∀ b, b < w.heap.size → w0.S b → S b ∨ (w0.w.heap.size ≤ b ∧ b < w.heap.size)) (hr : rowOf s t p = some xs)
    (hp : PVc (cx w0 ρ s w) p [v]) : FreshV S w0.w.heap.size w t v xs := by
  unfold rowOf at hr
  split at hr
  · rename_i k
    split at hr
    · rename_i u ys hk
      obtain ⟨e2, he2⟩ := castD_eq hr
      injection e2 with e2
      subst e2
      have he2 : ys = xs := he2
      subst he2
      obtain ⟨_, h1, _⟩ := hp
      have h1 : [v] = [ρ k] := h1
      have h1 : v = ρ k := by simpa using h1
      subst h1
      rcases h.heap k _ hk with ⟨h2, rfl⟩ | ⟨b, q, cp, cur, e', h2, hh, h3, h4, h5, h6⟩
      · exact .inl ⟨h2, rfl⟩
      · exact .inr ⟨b, q, cp, cur, e', h2, (h.fresh k _ b hk (by rw [show ρ k = _ from h2]; rfl)).imp (hold b) id, hh, h3, h4, h5, fun i x hi => Rd.mono (fun c hc => ⟨⟨fun e => hc.2.1 k _ hk (by rw [show ρ k = _ from h2, e]; rfl), hS c hc.1 hc.2.2⟩, rfl⟩) (h6 i x hi)⟩
    · cases hr
  · simp only [Option.some.injEq] at hr
    subst hr
    have h1 : v = .slice none 0 0 := by simpa using hp.1
    exact .inl ⟨h1, rfl⟩
  · cases hr
theorem rdOwn_c {w0 : Base} {ρ : Nat → Value} {s : St} {a : Act} {w : World} (h : Ok w0 ρ s a w) (hold : ∀ b, ¬ w0.old b → w0.w.heap.size ≤ b) {S : Nat → Prop} (hS : ∀ b, b < w.heap.size → w0.S b → S b ∨ (w0.w.heap.size ≤ b ∧ b < w.heap.size)) {rs : List Ty} {sv : SV} {v : Value} {x : HL rs} (hok : ownOk rs = true) (hr : rdOwn s rs sv = some x)
    (hv : SVc (cx w0 ρ s w) sv v) : OwnV S w0.w.heap.size w rs v x := by
  unfold rdOwn at hr
  split at hr
  · rename_i t p
    split at hr
    · rename_i y hy
      simp only [Option.some.injEq] at hr
      subst hr
      have hpa : p.agg = false ∧ p ≠ .any := by
        unfold rowOf at hy
        cases p <;> simp_all [PV.agg]
      exact rowOf_c h hold hS hy (SVc.one1 hpa.1 hpa.2 hv)
    · cases hr
  · rename_i t u r p es
    cases hro : restOkE p es with
    | false => rw [hro] at hr; cases hr
    | true =>
    rw [hro] at hr
    simp only [cond_true] at hr
    split at hr
    · rename_i y z hy hz
      simp only [Option.some.injEq] at hr
      subst hr
      obtain ⟨vs, rfl, v0, r0, e, h1, h2⟩ := hv
      have e' : vs = (v0 :: r0).toArray := by apply Array.ext'; simpa using e
      subst e'
      have hpv : PVc (cx w0 ρ s w) p [v0] := by
        obtain ⟨l, m, e1, e2, e3⟩ := h1
        have e3 : m = [] := e3
        subst e3
        rw [List.append_nil] at e1
        rw [e1]; exact e2
      have hblk : (∃ k t' xs', p = .row k ∧ v0 = ρ k ∧ s.hp k = some (.row t' xs')) ∨ blkOf v0 = none := by
        unfold rowOf at hy
        split at hy
        · rename_i k
          split at hy
          · rename_i t' xs' hk
            have h3 : [v0] = [ρ k] := hpv.2.1
            injection h3 with h3
            exact .inl ⟨k, t', xs', rfl, h3, hk⟩
          · cases hy
        · have h3 : [v0] = [.slice none 0 0] := hpv.1
          injection h3 with h3
          exact .inr (by rw [h3]; rfl)
        · cases hy
      refine ⟨v0, r0, rfl, rowOf_c h hold hS hy hpv, rdGo_c2 h (fun b hb => ⟨fun e => ?_, hS b hb.1 hb.2.2⟩) (fun j he b hne hj e => ⟨fun e2 => ?_, .inr ((h.fresh j he b hj e).imp (hold b) id)⟩) hro hz h2⟩
      · rcases hblk with ⟨k, t', xs', _, e2, hk⟩ | hn
        · rw [e2] at e
          exact hb.2.1 k _ hk e
        · rw [hn] at e; cases e
      · rcases hblk with ⟨k, t', xs', e3, e4, hk⟩ | hn
        · rw [e4] at e2
          exact h.apart j k he _ b (hne k e3) hj hk e e2
        · rw [hn] at e2; cases e2
    · cases hr
  · cases hr

theorem ctr_of_vc {n g : Nat} {fn : Func} {c : Ctr} {X : HL c.as → Fx} (hX : ∀ x, FxAll P (X x)) (hf : P.funcs[g]? = some fn) (hname : (fn.name == "runtime.NumGoroutine") = false) (hbody : fn.body.isNone = false) (_hn : c.as.length ≤ fn.ntmps)
    (hvc : ∀ x, c.pre x → LensL c.as x → vc (X x) n g fn c x) : CtrOk P g c := by
  refine ⟨⟨fn, hf, hname, hbody⟩, fun S w args x hS hgl hargs hpre => ?_⟩
  have hv := hvc x hpre hargs.lens
  have h := hX x
  unfold vc at hv
  split at hv
  · rename_i b hb
    let w0 : Base := { w := w, old := fun b => b < w.heap.size, oldlt := fun _ hb => hb, S := fun b => S b ∨ w.heap.size ≤ b, all := fun b hb => .inr (by omega), bv := [], gl := hgl, glold := fun q hq => (hgl q hq).1 }
    have hk : Keeps S w (Free w0 (fun _ => undef) (start fn.ntmps (argsV c.as x)).hp w) w := fun b hb => ⟨⟨hS b hb, fun k he hk => (by cases hk), .inl hb⟩, rfl⟩
    have hargs' : argsC (cx w0 (fun _ => undef) (start fn.ntmps (argsV c.as x)) w) (argsV c.as x) args.toList := argsV_c (hargs.mono hk)
    have hal : (argsV c.as x).length = args.size := by simpa using (argsC_get hargs').1
    have hok : Ok w0 (fun _ => undef) (start fn.ntmps (argsV c.as x)) { tmps := args ++ Array.replicate (fn.ntmps - args.size) undef, defers := [] } w :=
      { defers := rfl, below := BelowS.refl _ _, len := by simp [start, pad_length]; omega, frame := fun i => enter_frame hargs' i,
        back := fun i => by show SVc _ (lget [] i) _; unfold lget; cases i <;> trivial
        heap := fun k he hk => (by cases hk), used := fun k he hk => (by cases hk), fresh := fun k he b hk => (by cases hk), apart := fun k k' he he' b _ hk => (by cases hk) }
    have hcode := code_sound (f := g) (w0 := w0) h.ok (call_sound h n) ⟨fun k' g' c' hc' args' s' K' hh => by rw [call_some hc']; exact hh, fun k' g' c' args' l' hc' hsp' s' K' hh => by rw [call_split hc' hsp']; exact hh⟩ b _ _ hv _ _ w hok
    refine calls_of_wp hf hb (wp_mono hcode fun e a' w' hq => ?_)
    have fin : ∀ ρ' s', Ok w0 ρ' s' a' w' → (match resS (X x).E s' fn.results.toList with
        | some v => (match (bif c.own then (bif ownOk c.rs then rdOwn s' c.rs v else none) else rdRes s' c.rs v) with
          | some y => eqHL c.rs y (c.f x)
          | none => False)
        | none => False) → a'.defers = [] ∧ ∃ v, (results fn a'.tmps).run P w' = .ok v w' ∧ ∃ v2, Ending.returned v = Ending.returned v2 ∧
          (match c.own with
            | true => OwnV S w.heap.size w' c.rs v2 (c.f x)
            | false => ResV (fun b => S b ∨ (w.heap.size ≤ b ∧ b < w'.heap.size)) w' c.rs v2 (c.f x)) ∧ Below w.heap.size w w' := fun ρ' s' ho hr => by
      split at hr
      · rename_i sv hsv
        split at hr
        · rename_i y hy
          have hyx := eqHL_eq hr
          subst hyx
          obtain ⟨v, h1, h2⟩ := resS_c (P := P) h.ok.env ho hsv
          refine ⟨ho.defers, v, h1, v, rfl, ?_, ho.below.toB fun _ hb => hb⟩
          cases hown : c.own with
          | true =>
            rw [hown] at hy
            simp only [cond_true] at hy ⊢
            cases hg : ownOk c.rs with
            | false => rw [hg] at hy; cases hy
            | true => rw [hg] at hy; exact rdOwn_c (S := S) ho (fun b hb => Nat.le_of_not_lt hb) (fun b hb hb2 => hb2.imp id (fun q => ⟨q, hb⟩)) hg hy h2
          | false =>
            rw [hown] at hy
            simp only [cond_false] at hy ⊢
            refine rdRes_c ho (fun b hb hb2 => ?_) hy h2
            rcases hb2 with hb2 | hb2
            · exact .inl hb2
            · exact .inr ⟨hb2, hb⟩
        · exact hr.elim
      · exact hr.elim
    cases e with
    | normal => obtain ⟨ρ', s', ho, hr⟩ := hq; exact fin ρ' s' ho hr
    | ret => obtain ⟨ρ', s', ho, hr⟩ := hq; exact fin ρ' s' ho hr
    | exit id => obtain ⟨ρ', s', ho, hr⟩ := hq; exact hr.elim
    | goto l => exact hq.elim
    | panic c => exact hq.elim
    | outgrown => exact hq.elim
  · exact hv.elim
theorem ctrF_of_vc {n g hh : Nat} {fn : Func} {c : Ctr} {X : HL c.as → Fx} (hX : ∀ x, FxAll P (X x)) (hf : P.funcs[g]? = some fn) (hname : (fn.name == "runtime.NumGoroutine") = false) (hbody : fn.body.isNone = false) (_hn : c.as.length + 1 ≤ fn.ntmps)
    (hvc : ∀ x, c.pre x → LensL c.as x → vcF (X x) n g hh fn c x) : CtrOkF P g hh c := by
  refine ⟨⟨fn, hf, hname, hbody⟩, fun S w args x hS hgl hargs hpre => ?_⟩
  have hv := hvc x hpre hargs.lens
  have h := hX x
  unfold vcF at hv
  split at hv
  · rename_i b hb
    let w0 : Base := { w := w, old := fun b => b < w.heap.size, oldlt := fun _ hb => hb, S := fun b => S b ∨ w.heap.size ≤ b, all := fun b hb => .inr (by omega), bv := [], gl := hgl, glold := fun q hq => (hgl q hq).1 }
    have hk : Keeps S w (Free w0 (fun _ => undef) (start fn.ntmps (argsV c.as x ++ [SV.one (.con (.func (.func hh) #[] #[]))])).hp w) w := fun b hb => ⟨⟨hS b hb, fun k he hk => (by cases hk), .inl hb⟩, rfl⟩
    have hargs' : argsC (cx w0 (fun _ => undef) (start fn.ntmps (argsV c.as x ++ [SV.one (.con (.func (.func hh) #[] #[]))])) w) (argsV c.as x ++ [SV.one (.con (.func (.func hh) #[] #[]))]) (args ++ #[Value.func (.func hh) #[] #[]]).toList := by
      rw [Array.toList_append]
      exact argsC_append (argsV_c (hargs.mono hk)) ⟨SVc.of1 (p := .con (.func (.func hh) #[] #[])) rfl ⟨rfl, rfl⟩, trivial⟩
    have hal : (argsV c.as x).length = args.size := by have := (argsC_get hargs').1; simpa using this
    have hok : Ok w0 (fun _ => undef) (start fn.ntmps (argsV c.as x ++ [SV.one (.con (.func (.func hh) #[] #[]))])) { tmps := (args ++ #[Value.func (.func hh) #[] #[]]) ++ Array.replicate (fn.ntmps - (args ++ #[Value.func (.func hh) #[] #[]]).size) undef, defers := [] } w :=
      { defers := rfl, below := BelowS.refl _ _, len := by simp [start, pad_length]; omega, frame := fun i => enter_frame hargs' i,
        back := fun i => by show SVc _ (lget [] i) _; unfold lget; cases i <;> trivial
        heap := fun k he hk => (by cases hk), used := fun k he hk => (by cases hk), fresh := fun k he b hk => (by cases hk), apart := fun k k' he he' b _ hk => (by cases hk) }
    have hcode := code_sound (f := g) (w0 := w0) h.ok (call_sound h n) ⟨fun k' g' c' hc' args' s' K' hh => by rw [call_some hc']; exact hh, fun k' g' c' args' l' hc' hsp' s' K' hh => by rw [call_split hc' hsp']; exact hh⟩ b _ _ hv _ _ w hok
    refine calls_of_wp hf hb (wp_mono hcode fun e a' w' hq => ?_)
    have fin : ∀ ρ' s', Ok w0 ρ' s' a' w' → (match resS (X x).E s' fn.results.toList with
        | some v => (match (bif c.own then (bif ownOk c.rs then rdOwn s' c.rs v else none) else rdRes s' c.rs v) with
          | some y => eqHL c.rs y (c.f x)
          | none => False)
        | none => False) → a'.defers = [] ∧ ∃ v, (results fn a'.tmps).run P w' = .ok v w' ∧ ∃ v2, Ending.returned v = Ending.returned v2 ∧
          (match c.own with
            | true => OwnV S w.heap.size w' c.rs v2 (c.f x)
            | false => ResV (fun b => S b ∨ (w.heap.size ≤ b ∧ b < w'.heap.size)) w' c.rs v2 (c.f x)) ∧ Below w.heap.size w w' := fun ρ' s' ho hr => by
      split at hr
      · rename_i sv hsv
        split at hr
        · rename_i y hy
          have hyx := eqHL_eq hr
          subst hyx
          obtain ⟨v, h1, h2⟩ := resS_c (P := P) h.ok.env ho hsv
          refine ⟨ho.defers, v, h1, v, rfl, ?_, ho.below.toB fun _ hb => hb⟩
          cases hown : c.own with
          | true =>
            rw [hown] at hy
            simp only [cond_true] at hy ⊢
            cases hg : ownOk c.rs with
            | false => rw [hg] at hy; cases hy
            | true => rw [hg] at hy; exact rdOwn_c (S := S) ho (fun b hb => Nat.le_of_not_lt hb) (fun b hb hb2 => hb2.imp id (fun q => ⟨q, hb⟩)) hg hy h2
          | false =>
            rw [hown] at hy
            simp only [cond_false] at hy ⊢
            refine rdRes_c ho (fun b hb hb2 => ?_) hy h2
            rcases hb2 with hb2 | hb2
            · exact .inl hb2
            · exact .inr ⟨hb2, hb⟩
        · exact hr.elim
      · exact hr.elim
    cases e with
    | normal => obtain ⟨ρ', s', ho, hr⟩ := hq; exact fin ρ' s' ho hr
    | ret => obtain ⟨ρ', s', ho, hr⟩ := hq; exact fin ρ' s' ho hr
    | exit id => obtain ⟨ρ', s', ho, hr⟩ := hq; exact hr.elim
    | goto l => exact hq.elim
    | panic c => exact hq.elim
    | outgrown => exact hq.elim
  · exact hv.elim
end
end Go.Sx
/-
  Sx, part RA: functions that change memory of ours against their contracts.
-/
namespace Go.Sx
open Go.RowKit

theorem padTo_length : ∀ (n : Nat) (l : List SV), (padTo n l).length = n
  | 0, _ => rfl
  | n + 1, [] => by simp [padTo, padTo_length n]
  | n + 1, _ :: r => by simp [padTo, padTo_length n]
theorem lget_padTo : ∀ (n : Nat) (l : List SV) (i : Nat), lget (padTo n l) i = lget l i ∨ lget (padTo n l) i = .one .any
  | 0, _, _ => .inr rfl
  | n + 1, [], 0 => .inr rfl
  | n + 1, [], i + 1 => (lget_padTo n [] i).elim (fun h => .inr (by show lget (padTo n []) i = _; rw [h]; rfl)) .inr
  | n + 1, _ :: _, 0 => .inl rfl
  | n + 1, _ :: r, i + 1 => lget_padTo n r i
theorem setSlots_lt : ∀ (ts : List SV) (j i : Nat) (fr : List SV), i < j → lget (setSlots fr (enumS j ts)) i = lget fr i
  | [], _, _, _, _ => rfl
  | t :: ts, j, i, fr, h => by
    show lget (setSlots (lset fr j t) (enumS (j + 1) ts)) i = _
    rw [setSlots_lt ts (j + 1) i _ (by omega), lget_lset_ne _ _ _ _ (by omega)]
theorem setSlots_enum : ∀ (ts : List SV) (j i : Nat) (fr : List SV), j + ts.length ≤ fr.length → i < ts.length → lget (setSlots fr (enumS j ts)) (j + i) = lget ts i
  | [], _, _, _, _, h => by simp at h
  | t :: ts, j, i, fr, hl, h => by
    show lget (setSlots (lset fr j t) (enumS (j + 1) ts)) (j + i) = _
    cases i with
    | zero =>
      rw [show j + 0 = j from rfl, setSlots_lt ts (j + 1) j _ (by omega), lget_lset_eq, if_pos (by simp at hl; omega)]
      rfl
    | succ i =>
      rw [show j + (i + 1) = (j + 1) + i by omega, setSlots_enum ts (j + 1) i _ (by rw [lset_length]; simp at hl; omega) (by simpa using h)]
      rfl
theorem trkSVs_length : ∀ l : List (Nat × PV), (trkSVs l).length = l.length
  | [] => rfl
  | _ :: r => by simp [trkSVs, trkSVs_length r]
theorem lget_trk : ∀ (l : List (Nat × PV)) (i : Nat) (e : Nat × PV), l[i]? = some e → lget (trkSVs l) i = .one e.2
  | [], _, _, h => by simp at h
  | _ :: _, 0, e, h => by simp at h; subst h; rfl
  | _ :: r, i + 1, e, h => lget_trk r i e (by simpa using h)
theorem lget_trk_none : ∀ (l : List (Nat × PV)) (i : Nat), l[i]? = none → lget (trkSVs l) i = .one .any
  | [], _, _ => rfl
  | _ :: _, 0, h => by simp at h
  | _ :: r, i + 1, h => lget_trk_none r i (by simpa using h)
theorem distN_mem : ∀ {l : List (Nat × HE)}, distN l = true → ∀ {k h}, (k, h) ∈ l → assoc l k = some h
  | [], _, _, _, hm => by cases hm
  | (j, q) :: r, hd, k, h, hm => by
    unfold distN at hd
    split at hd
    · rename_i e
      unfold assoc
      rcases List.mem_cons.1 hm with e2 | hm
      · injection e2 with e3 e4; subst e3; subst e4; rw [Nat.beq_refl]; rfl
      · have := distN_mem hd hm
        cases eb : Nat.beq k j with
        | true => have e3 := Nat.eq_of_beq_eq_true eb; subst e3; rw [e] at this; cases this
        | false => exact this
    · cases hd
theorem trks_mem : ∀ {l : List (Nat × HE)} {e : Nat × PV}, e ∈ trks l → ∃ h, (e.1, h) ∈ l ∧ trkHE e.1 h = some e.2
  | [], e, h => by cases h
  | (j, q) :: r, e, hm => by
    unfold trks at hm
    split at hm
    · rename_i p hp
      rcases List.mem_cons.1 hm with rfl | hm
      · exact ⟨q, by simp, hp⟩
      · obtain ⟨h, g1, g2⟩ := trks_mem hm; exact ⟨h, List.mem_cons_of_mem _ g1, g2⟩
    · obtain ⟨h, g1, g2⟩ := trks_mem hm; exact ⟨h, List.mem_cons_of_mem _ g1, g2⟩
theorem sameNms_trks : ∀ {l l' : List (Nat × HE)}, sameNms l l' = true → (trks l).map (·.1) = (trks l').map (·.1)
  | [], [], _ => rfl
  | (k, h) :: r, (j, h') :: q, e => by
    unfold sameNms at e
    cases eb : Nat.beq k j with
    | false => rw [eb] at e; cases e
    | true =>
      rw [eb] at e
      simp only [cond_true] at e
      have := Nat.eq_of_beq_eq_true eb
      subst this
      unfold trks
      split at e
      · rename_i e1 e2
        have := sameNms_trks e
        rw [e1, e2]
        show k :: _ = k :: _
        rw [this]
      · rename_i e1 e2; rw [e1, e2]; exact sameNms_trks e
      · cases e
  | [], _ :: _, e => by cases e
  | _ :: _, [], e => by cases e
theorem trk_c {c : Cx} {k : Nat} {h : HE} {p : PV} (hp : trkHE k h = some p) (hu : c.us k = true) (hh : HEc c k h) : SVc c (.one p) (c.ρ k) := by
  cases h with
  | box ps =>
    cases hp
    obtain ⟨b, e, cs, h1, _⟩ := hh
    exact SVc.of1 rfl ⟨hu, b, h1, by rw [h1]⟩
  | row t xs =>
    cases hp
    refine SVc.of1 rfl ⟨hu, rfl, ?_⟩
    rcases hh with ⟨h1, _⟩ | ⟨b, o, cp, cur, e, h1, _⟩ <;> rw [h1] <;> rfl
  | map kk t xs =>
    cases hp
    obtain ⟨b, es, cl, h1, _⟩ := hh
    exact SVc.of1 rfl ⟨hu, rfl, by rw [h1]; rfl⟩
  | clo f ps =>
    cases hp
    obtain ⟨vs, h1, _⟩ := hh
    exact SVc.of1 rfl ⟨hu, rfl, by rw [h1]; rfl⟩
  | _ => cases hp
theorem trk_eq {c : Cx} {k : Nat} {h : HE} {p : PV} {v : Value} (hp : trkHE k h = some p) (hv : SVc c (.one p) v) : v = c.ρ k := by
  cases h with
  | box ps =>
    cases hp
    obtain ⟨_, b, h1, h2⟩ := SVc.one1 rfl (by simp) hv
    rw [h1]; simpa using h2
  | row t xs =>
    cases hp
    have := (SVc.one1 rfl (by simp) hv).2.1
    simpa using this
  | map kk t xs =>
    cases hp
    have := (SVc.one1 rfl (by simp) hv).2.1
    simpa using this
  | clo f ps =>
    cases hp
    have := (SVc.one1 rfl (by simp) hv).2.1
    simpa using this
  | _ => cases hp
theorem leX_ok {w0 : Base} {ρ : Nat → Value} {s : St} {a : Act} {w : World} (h : Ok w0 ρ s a w) {v : Inv} (hN : w0.bv.length = (trks v.heap).length) (hle : leX s v) :
    ∃ ρ', Ok w0 ρ' (hpOf v.heap) { tmps := #[], defers := [] } w ∧ ∀ i e, (trks v.heap)[i]? = some e → SVc (cx w0 ρ' (hpOf v.heap) w) (.one e.2) (w0.bv.getD i undef) := by
  unfold leX at hle
  simp only [] at hle
  have hlen : (padTo (trkSVs (trks v.heap)).length s.bk).length = (trks v.heap).length := by rw [padTo_length, trkSVs_length]
  have h1 : Ok w0 ρ { s with fr := padTo (trkSVs (trks v.heap)).length s.bk, bk := [] } { tmps := w0.bv.toArray, defers := [] } w :=
    { defers := rfl, below := h.below, len := by rw [hlen]; simpa using hN.symm,
      frame := fun i => by
        show SVc (cx w0 ρ s w) (lget (padTo (trkSVs (trks v.heap)).length s.bk) i) (w0.bv.toArray.getD i undef)
        rcases lget_padTo (trkSVs (trks v.heap)).length s.bk i with e | e
        · rw [e]
          have := h.back i
          have e2 : w0.bv.toArray.getD i undef = w0.bv.getD i undef := by simp
          rw [e2]; exact this
        · rw [e]; trivial
      back := fun i => (by show SVc _ (lget [] i) _; unfold lget; cases i <;> trivial)
      heap := h.heap, used := h.used, fresh := h.fresh, apart := h.apart }
  obtain ⟨ρ', h2⟩ := le_ok h1 hle
  refine ⟨ρ', { defers := rfl, below := h2.below, len := rfl, frame := fun i => (by show SVc _ (lget [] i) _; unfold lget; cases i <;> trivial), back := fun i => (by show SVc _ (lget [] i) _; unfold lget; cases i <;> trivial), heap := h2.heap, used := h2.used, fresh := h2.fresh, apart := h2.apart }, fun i e he => ?_⟩
  have h3 := h2.frame i
  have hi : i < (trks v.heap).length := (List.getElem?_eq_some_iff.1 he).1
  have e1 : lget (setSlots (anys (padTo (trkSVs (trks v.heap)).length s.bk)) (enumS 0 (trkSVs (trks v.heap)))) i = .one e.2 := by
    have := setSlots_enum (trkSVs (trks v.heap)) 0 i (anys (padTo (trkSVs (trks v.heap)).length s.bk)) (by rw [anys_length, hlen, trkSVs_length]; omega) (by rw [trkSVs_length]; exact hi)
    rw [Nat.zero_add] at this
    rw [this]; exact lget_trk _ i e he
  have e2 : w0.bv.toArray.getD i undef = w0.bv.getD i undef := by simp
  rw [← e1, ← e2]
  exact h3
theorem prc_run {P : Program} {X : Fx} {n g : Nat} {fn : Func} {p : Prc} {x : p.G} (h : FxAll P X) (hf : P.funcs[g]? = some fn) (hv : vcPr X n g fn p x) {w0 : Base} {ρ : Nat → Value} {w : World} {vs : Array Value}
    (h0 : Ok w0 ρ (p.st x) { tmps := vs, defers := [] } w) :
    Calls P g vs w (fun e w' => ∃ v ρ2, e = .returned v ∧ (∀ n, trkd (trks (p.inv x).heap) n = true → ρ2 n = ρ n) ∧ Ok w0 ρ2 (hpOf (p.inv (p.f x).1).heap) { tmps := #[], defers := [] } w' ∧ ResV (fun _ => True) w' p.rs v (p.f x).2) := by
  unfold vcPr at hv
  split at hv
  · rename_i b hb
    cases hc : (p.rs.all noSl && (Nat.ble p.n fn.ntmps && (distN (p.inv x).heap && sameNms (p.inv x).heap (p.inv (p.f x).1).heap))) with
    | false => rw [hc] at hv; exact hv.elim
    | true =>
    rw [hc] at hv
    simp only [cond_true] at hv
    simp only [Bool.and_eq_true] at hc
    obtain ⟨hrs, hble, hdist, hsame⟩ := hc
    have hble := Nat.le_of_ble_eq_true hble
    have hlp : (p.st x).fr.length = p.n := by show (setSlots (anys (pad p.n)) _).length = _; rw [setSlots_length, anys_length, pad_length]
    have hlv : vs.size = p.n := by rw [← hlp]; exact h0.len.symm
    let w1 : Base := { w0 with bv := (trks (p.inv x).heap).map (fun e => ρ e.1) }
    have hbv : ∀ i e, (trks (p.inv x).heap)[i]? = some e → w1.bv.getD i undef = ρ e.1 := fun i e he => by
      show ((trks (p.inv x).heap).map (fun e => ρ e.1)).getD i undef = _
      rw [List.getD, List.getElem?_map, he]; rfl
    have hok : Ok w1 ρ { p.st x with fr := (p.st x).fr ++ pad (fn.ntmps - p.n), bk := trkSVs (trks (p.inv x).heap) } { tmps := vs ++ Array.replicate (fn.ntmps - vs.size) undef, defers := [] } w :=
      { defers := rfl, below := h0.below, len := by simp [pad_length, hlp]; omega,
        frame := fun i => by
          show SVc (cx w0 ρ (p.st x) w) (lget ((p.st x).fr ++ pad (fn.ntmps - p.n)) i) _
          rw [lget_append]
          by_cases hi : i < (p.st x).fr.length
          · rw [if_pos hi]
            have := h0.frame i
            have e : (vs ++ Array.replicate (fn.ntmps - vs.size) undef).getD i undef = vs.getD i undef := by
              have hlt : i < vs.size := by omega
              simp [Array.getElem?_append, hlt]
            rw [e]; exact this
          · rw [if_neg hi, lget_pad]; trivial
        back := fun i => by
          show SVc (cx w0 ρ (p.st x) w) (lget (trkSVs (trks (p.inv x).heap)) i) (w1.bv.getD i undef)
          cases hi : (trks (p.inv x).heap)[i]? with
          | none => rw [lget_trk_none _ _ hi]; trivial
          | some e =>
            rw [lget_trk _ _ _ hi, hbv i e hi]
            obtain ⟨he, hm, hk⟩ := trks_mem (List.mem_iff_getElem?.2 ⟨i, hi⟩)
            have ha := distN_mem hdist hm
            exact trk_c (c := cx w0 ρ (p.st x) w) hk (h0.used _ he ha) (h0.heap _ he ha)
        heap := h0.heap, used := h0.used, fresh := h0.fresh, apart := h0.apart }
    have hcode := code_sound (f := g) (w0 := w1) h.ok (call_sound h n) ⟨fun k' g' c' hc' args' s' K' hh => by rw [call_some hc']; exact hh, fun k' g' c' args' l' hc' hsp' s' K' hh => by rw [call_split hc' hsp']; exact hh⟩ b _ _ hv _ _ w hok
    refine calls_of_wp hf hb (wp_mono hcode fun e a' w' hq => ?_)
    have fin : ∀ ρ' s', Ok w1 ρ' s' a' w' → (match resS X.E s' fn.results.toList with
        | some v => (match rdRes s' p.rs v with
          | some y => eqHL p.rs y (p.f x).2 ∧ leX s' (p.inv (p.f x).1)
          | none => False)
        | none => False) → a'.defers = [] ∧ ∃ v, (results fn a'.tmps).run P w' = .ok v w' ∧ ∃ v2 ρ2, Ending.returned v = Ending.returned v2 ∧ (∀ n, trkd (trks (p.inv x).heap) n = true → ρ2 n = ρ n) ∧
          Ok w0 ρ2 (hpOf (p.inv (p.f x).1).heap) { tmps := #[], defers := [] } w' ∧ ResV (fun _ => True) w' p.rs v2 (p.f x).2 := fun ρ' s' ho hr => by
      split at hr
      · rename_i sv hsv
        split at hr
        · rename_i y hy
          obtain ⟨hr1, hr2⟩ := hr
          have hyx := eqHL_eq hr1
          subst hyx
          obtain ⟨v, h1, h2⟩ := resS_c (P := P) h.ok.env ho hsv
          have hnm := sameNms_trks hsame
          obtain ⟨ρ3, h3, h4⟩ := leX_ok ho (v := p.inv (p.f x).1) (by
            show ((trks (p.inv x).heap).map (fun e => ρ e.1)).length = _
            have := congrArg List.length hnm
            simpa using this) hr2
          have hfin : Ok w0 ρ3 (hpOf (p.inv (p.f x).1).heap) { tmps := #[], defers := [] } w' :=
            { defers := rfl, below := h3.below, len := rfl, frame := h3.frame
              back := fun i => (by show SVc _ (lget [] i) _; unfold lget; cases i <;> trivial)
              heap := h3.heap, used := h3.used, fresh := h3.fresh, apart := h3.apart }
          refine ⟨ho.defers, v, h1, v, ρ3, rfl, fun k hk => ?_, hfin, rdRes_c ho (S := fun _ => True) (fun _ _ _ => trivial) hy h2⟩
          obtain ⟨he, hm, hs⟩ := trkd_iff.1 hk
          have hin : k ∈ (trks (p.inv x).heap).map (·.1) := by
            clear h4 hnm hok hbv hcode h2 h1 hy hsv hr2 hr1 ho hq hdist hsame h0 hv hb
            generalize (p.inv x).heap = l at hm hk
            clear hm
            induction l with
            | nil => cases hk
            | cons e r ih =>
              obtain ⟨j, q⟩ := e
              unfold trks at hk ⊢
              split at hk
              · rename_i p' hp'
                unfold trkd at hk
                cases eb : Nat.beq k j with
                | true => have := Nat.eq_of_beq_eq_true eb; subst this; simp [hp']
                | false => rw [eb] at hk; simp only [hp', List.map_cons, List.mem_cons]; exact .inr (ih hk)
              · exact ih hk
          obtain ⟨i, hi⟩ := List.mem_iff_getElem?.1 hin
          have hi2 := hi
          rw [hnm] at hi2
          rw [List.getElem?_map] at hi hi2
          cases he1 : (trks (p.inv x).heap)[i]? with
          | none => rw [he1] at hi; cases hi
          | some e1 =>
            cases he2 : (trks (p.inv (p.f x).1).heap)[i]? with
            | none => rw [he2] at hi2; cases hi2
            | some e2 =>
              rw [he1] at hi
              rw [he2] at hi2
              have k1 : e1.1 = k := by simpa using hi
              have k2 : e2.1 = k := by simpa using hi2
              have hsv2 := h4 i e2 he2
              obtain ⟨hh, _, hkk⟩ := trks_mem (List.mem_iff_getElem?.2 ⟨i, he2⟩)
              have := trk_eq hkk hsv2
              rw [hbv i e1 he1, k1, k2] at this
              exact this.symm
        · exact hr.elim
      · exact hr.elim
    cases e with
    | normal => obtain ⟨ρ', s', ho, hr⟩ := hq; exact fin ρ' s' ho hr
    | ret => obtain ⟨ρ', s', ho, hr⟩ := hq; exact fin ρ' s' ho hr
    | exit id => obtain ⟨ρ', s', ho, hr⟩ := hq; exact hr.elim
    | goto l => exact hq.elim
    | panic c => exact hq.elim
    | outgrown => exact hq.elim
  · exact hv.elim
theorem prc_of_vc {P : Program} {n g : Nat} {fn : Func} {p : Prc} {X : p.G → Fx} (hX : ∀ x, FxAll P (X x)) (hf : P.funcs[g]? = some fn) (hname : (fn.name == "runtime.NumGoroutine") = false) (hbody : fn.body.isNone = false)
    (hvc : ∀ x, p.pre x → p.lens x → vcPr (X x) n g fn p x) : PrcOk P g p :=
  ⟨⟨fn, hf, hname, hbody⟩, fun _ _ _ _ x h hp hl => prc_run (hX x) hf (hvc x hp hl) h⟩
def Prc.sub (p : Prc) (q : p.G → Prop) : Prc := { p with pre := fun x => p.pre x ∧ q x }
theorem prc_of_vc_rec {P : Program} {n g : Nat} {fn : Func} {p : Prc} {X : p.G → Fx} (m : p.G → Nat) (hX : ∀ x, PrcOk P g (p.sub fun y => m y < m x) → FxAll P (X x)) (hf : P.funcs[g]? = some fn) (hname : (fn.name == "runtime.NumGoroutine") = false) (hbody : fn.body.isNone = false)
    (hvc : ∀ x, p.pre x → p.lens x → vcPr (X x) n g fn p x) : PrcOk P g p := by
  have key : ∀ N, PrcOk P g (p.sub fun y => m y < N) := fun N => by
    induction N with
    | zero => exact ⟨⟨fn, hf, hname, hbody⟩, fun _ _ _ _ x _ hp _ => absurd hp.2 (Nat.not_lt_zero _)⟩
    | succ N ih =>
      refine ⟨⟨fn, hf, hname, hbody⟩, fun w0 ρ w vs x h hp hl => ?_⟩
      have hlt : m x < N + 1 := hp.2
      have hx : PrcOk P g (p.sub fun y => m y < m x) := ⟨ih.1, fun w0 ρ w vs y h hp hl => ih.2 w0 ρ w vs y h ⟨hp.1, by
        have h1 : m y < m x := hp.2
        show m y < N
        omega⟩ hl⟩
      exact prc_run (p := p) (hX x hx) hf (hvc x hp.1 hl) h
  exact ⟨⟨fn, hf, hname, hbody⟩, fun w0 ρ w vs x h hp hl => (key (m x + 1)).2 w0 ρ w vs x h ⟨hp, Nat.lt_succ_self _⟩ hl⟩
end Go.Sx
/-
  Sx, part V: what is handed in reads as data.
-/
namespace Go.Sx
open Go.RowKit

def Good : (u : Ty) → u.D → Prop
  | .int k, n => IR k n
  | .bool, _ => True
  | .str, s => s.length ≤ 9223372036854775807
  | .sl u, xs => ∀ x ∈ xs, Good u x
  | .arr _ u, xs => ∀ x ∈ xs, Good u x
  | .pair a b, x => Good a x.1 ∧ Good b x.2
  | .ref _, _ => True
  | .err, _ => True
  | .mp _ _, _ => True
def Fit : (u : Ty) → u.D → Prop
  | .int _, _ => True
  | .bool, _ => True
  | .str, s => s.length ≤ 140737488351232
  | .sl u, xs => xs.length * u.low ≤ 140737488351232 ∧ ∀ x ∈ xs, Fit u x
  | .arr _ u, xs => ∀ x ∈ xs, Fit u x
  | .pair a b, x => Fit a x.1 ∧ Fit b x.2
  | .ref _, _ => True
  | .err, _ => True
  | .mp _ _, _ => True

section
variable {H : Type} {enc : TypeId × Value → H} {P : Program} {w : World} {sp : Nat → Bool}

theorem ir_of_wf {k : IntKind} {n : Int} (h : (Lit.int k n).wf = true) : IR k n := by
  simp only [Lit.wf, Bool.and_eq_true, decide_eq_true_eq] at h
  cases k <;> simp only [IntKind.min, IntKind.max, IntKind.bits, IntKind.signed] at h <;> simp at h <;> simp only [IR] <;> omega

theorem cells_get {a : Addr} {n : Nat} {l : List Value} (h : w.cells? 0 a n = some l) : l.length = n ∧ ∀ (j : Nat) v, l[j]? = some v → w.cell? (a.add j) = some v := by
  unfold World.cells? at h
  simp only [Nat.zero_le, if_true] at h
  have key : ∀ (r : List Nat) (l : List Value), r.mapM (fun i => w.cell? (a.add i)) = some l → l.length = r.length ∧ ∀ (j : Nat) v, l[j]? = some v → ∃ i, r[j]? = some i ∧ w.cell? (a.add i) = some v := by
    intro r
    induction r with
    | nil => intro l h; simp at h; subst h; simp
    | cons x r ih =>
      intro l h
      rw [List.mapM_cons] at h
      cases hx : w.cell? (a.add x) with
      | none => rw [hx] at h; simp at h
      | some v =>
        rw [hx] at h
        cases hr : r.mapM (fun i => w.cell? (a.add i)) with
        | none => rw [hr] at h; simp at h
        | some m =>
          rw [hr] at h
          simp at h
          subst h
          obtain ⟨h1, h2⟩ := ih m hr
          refine ⟨by simp [h1], fun j u hj => ?_⟩
          cases j with
          | zero => simp at hj; subst hj; exact ⟨x, rfl, hx⟩
          | succ j => simpa using h2 j u (by simpa using hj)
  obtain ⟨h1, h2⟩ := key _ _ h
  refine ⟨by simpa using h1, fun j v hj => ?_⟩
  obtain ⟨i, hi, hc⟩ := h2 j v hj
  have : i = j := by
    rw [List.getElem?_range] at hi
    · simpa using hi.symm
    · have : j < l.length := (List.getElem?_eq_some_iff.1 hj).1
      simpa [h1] using this
  rw [← this]; exact hc

theorem list_choice {α : Type} {Q : Nat → α → Prop} : ∀ (n : Nat), (∀ i, i < n → ∃ x, Q i x) → ∃ xs : List α, xs.length = n ∧ ∀ (i : Nat) x, xs[i]? = some x → Q i x
  | 0, _ => ⟨[], rfl, by simp⟩
  | n + 1, h => by
    obtain ⟨xs, h1, h2⟩ := list_choice n (fun i hi => h i (by omega))
    obtain ⟨x, hx⟩ := h n (by omega)
    refine ⟨xs ++ [x], by simp [h1], fun i y hy => ?_⟩
    by_cases hi : i < n
    · rw [List.getElem?_append_left (by omega)] at hy; exact h2 i y hy
    · have hlt := (List.getElem?_eq_some_iff.1 hy).1
      simp [h1] at hlt
      have : i = n := by omega
      subst this
      rw [List.getElem?_append_right (by omega)] at hy
      simp [h1] at hy
      subst hy; exact hx

theorem weightsAll_mem {e : TypeId} {c : Nat} : ∀ {l : List (DataW H)}, (DataW.weightsAll P e l).all (fun n => decide (n ≤ c)) = true → ∀ d ∈ l, (DataW.weights P e d).all (fun n => decide (n ≤ c)) = true
  | [], _, _, h => by cases h
  | x :: l, h, d, hd => by
    rw [DataW.weightsAll, List.all_append, Bool.and_eq_true] at h
    rcases List.mem_cons.1 hd with rfl | hd
    · exact h.1
    · exact weightsAll_mem h.2 d hd

theorem weightsEach_cons {t : TypeId} {ts : List TypeId} {d : DataW H} {ds : List (DataW H)} {c : Nat} (h : (DataW.weightsEach P (t :: ts) (d :: ds)).all (fun n => decide (n ≤ c)) = true) :
    (DataW.weights P t d).all (fun n => decide (n ≤ c)) = true ∧ (DataW.weightsEach P ts ds).all (fun n => decide (n ≤ c)) = true := by
  rw [DataW.weightsEach, List.all_append, Bool.and_eq_true] at h
  exact h

def Reads (enc : TypeId × Value → H) (P : Program) (w : World) (sp : Nat → Bool) (u : Ty) : Prop :=
  (∀ (t : TypeId), (is2 P u).1 t → ∀ (fuel : Nat) (cs : List Value) (d : DataW H) (ps : List MemPlace), DataW.trod enc P w 0 sp true fuel t cs = some (d, ps) →
    ∃ x : u.D, Rd (fun b => b < w.heap.size) w u cs x ∧ Good u x ∧ ((DataW.weights P t d).all (fun n => decide (n ≤ reachBytes)) = true → Fit u x)) ∧
  (∀ (fs : List Field) (o : Nat), (is2 P u).2 fs o → ∀ (n : Nat) (cs : List Value) (xs : List (DataW H × List MemPlace)), cs.length = o + u.size → xs.length = fs.length →
    (∀ (i : Nat) (f : Field), fs[i]? = some f → DataW.trod enc P w 0 sp true n f.type ((cs.drop f.offset).take (P.cellsOf f.type)) = xs[i]?) →
    ∃ x : u.D, Rd (fun b => b < w.heap.size) w u (cs.drop o) x ∧ Good u x ∧ ((DataW.weightsEach P (fs.map (·.type)) (xs.map (·.1))).all (fun n => decide (n ≤ reachBytes)) = true → Fit u x))

theorem reads_int {k : IntKind} : Reads enc P w sp (.int k) := by
  refine ⟨fun t ht fuel cs d ps h => ?_, fun fs o h => h.elim⟩
  obtain ⟨n, rfl, _, hw⟩ := DataW.trod_int (show P.underlying t = some (.int k) from ht) h
  exact ⟨n, ⟨rfl, ir_of_wf hw⟩, ir_of_wf hw, fun _ => trivial⟩
theorem reads_bool : Reads enc P w sp .bool := by
  refine ⟨fun t ht fuel cs d ps h => ?_, fun fs o h => h.elim⟩
  obtain ⟨b, rfl, _⟩ := DataW.trod_bool (show P.underlying t = some .bool from ht) h
  exact ⟨b, rfl, trivial, fun _ => trivial⟩
theorem reads_str : Reads enc P w sp .str := by
  refine ⟨fun t ht fuel cs d ps h => ?_, fun fs o h => h.elim⟩
  obtain ⟨s, rfl, e, hs⟩ := DataW.trod_string (show P.underlying t = some .string from ht) h
  cases e
  have hs' : s.size ≤ 9223372036854775807 := by simp only [maxLen] at hs; omega
  refine ⟨ofStr s, str_self s hs', by show (ofStr s).length ≤ _; rw [ofStr_length]; exact hs', fun hw => ?_⟩
  rw [DataW.weights] at hw
  simp only [List.all_cons, List.all_nil, Bool.and_true, decide_eq_true_eq] at hw
  have this := hw
  show (ofStr s).length ≤ 140737488351232
  rw [ofStr_length]
  have e : s.data.toList.length = s.size := rfl
  rw [e] at this
  have hr : reachBytes = 140737488351232 := rfl
  omega
theorem reads_sl {u : Ty} (ih : Reads enc P w sp u) : Reads enc P w sp (.sl u) := by
  refine ⟨fun t ht fuel cs d ps h => ?_, fun fs o h => h.elim⟩
  obtain ⟨e, h1, h2, h3, h4, h5⟩ := ht
  rcases Go.Deep.open_slice h1 h with ⟨rfl, he⟩ | ⟨a, len, cap, m, n, D, Pl, rfl, hb, hl, hm, hmm, he, hx⟩
  · cases he
    exact ⟨([] : List u.D), ⟨none, 0, rfl, Nat.le_refl _, Nat.zero_le _, fun h => absurd h (by simp)⟩, (fun x hx => by cases hx), fun _ => ⟨by simp, (fun x hx => by cases hx)⟩⟩
  · cases he
    have hlm : len ≤ m := by rw [hmm]; split <;> omega
    obtain ⟨xs, hxl, hxs⟩ := list_choice (α := u.D) (Q := fun i x => ∃ cs', w.cells? 0 (a.add (i * P.cellsOf e)) (P.cellsOf e) = some cs' ∧ Rd (fun b => b < w.heap.size) w u cs' x ∧ Good u x ∧ ((DataW.weights P e (D i)).all (fun n => decide (n ≤ reachBytes)) = true → Fit u x)) len (fun i hi => by
      obtain ⟨cs', c1, c2⟩ := hx i (by omega)
      obtain ⟨x, r1, r2, r3⟩ := ih.1 e h5 n cs' (D i) (Pl i) c2
      exact ⟨x, cs', c1, r1, r2, r3⟩)
    refine ⟨xs, ⟨some a, cap, by rw [hxl], by omega, hm, fun hp => ?_⟩, fun x hx' => ?_, fun hw => ?_⟩
    · have hsp : a.spot = none ∧ a.block < w.heap.size := by
        obtain ⟨cs', c1, r1, _⟩ := hxs 0 xs[0] (List.getElem?_eq_getElem hp)
        have hl1 := r1.len
        obtain ⟨g1, g2⟩ := cells_get c1
        have hlt : 0 < cs'.length := by rw [hl1]; exact h4
        have := g2 0 cs'[0] (List.getElem?_eq_getElem hlt)
        simp only [Nat.zero_mul] at this
        unfold World.cell? at this
        split at this
        · rename_i c t' fr hh
          split at this
          · cases this
          · rename_i hsp
            have hb' : ((a.add 0).add 0).block = a.block := by simp [Addr.add]
            have hs' : ((a.add 0).add 0).spot = a.spot := by simp [Addr.add]
            rw [hb'] at hh
            rw [hs'] at hsp
            exact ⟨by simpa using hsp, (Array.getElem?_eq_some_iff.1 hh).1⟩
        · cases this
      refine ⟨a.block, a.off, by cases a; simp at hsp ⊢; exact hsp.1, hsp.2, fun i x hi => ?_⟩
      obtain ⟨cs', c1, r1, _⟩ := hxs i x hi
      obtain ⟨g1, g2⟩ := cells_get c1
      refine ⟨cs', fun j v hj => ?_, r1⟩
      have := g2 j v hj
      rw [Go.Deep.add_add, h2] at this
      have e2 : a.add (i * u.size + j) = ⟨a.block, a.off + (i * u.size + j), none⟩ := by
        unfold Addr.add
        split
        · rename_i h0
          have h0 : i * u.size + j = 0 := h0
          rw [h0]
          have hs := hsp.1
          clear hx hxs c1 g2 h hmm this hj hb hsp
          cases a; simp at hs ⊢; exact hs
        · simp
      rw [e2] at this
      exact this
    · obtain ⟨i, hi⟩ := List.mem_iff_getElem?.1 hx'
      obtain ⟨cs', _, _, r2, _⟩ := hxs i x hi
      exact r2
    · rw [DataW.weights, h1] at hw
      simp only [List.all_cons, List.all_append, Bool.and_eq_true, decide_eq_true_eq, List.length_map, List.length_range] at hw
      refine ⟨?_, fun x hx' => ?_⟩
      · have : len * u.low ≤ (len + (m - len)) * P.bytesOf e := Nat.mul_le_mul (by omega) h3
        have hr : reachBytes = 140737488351232 := rfl
        rw [hxl]
        omega
      · obtain ⟨i, hi⟩ := List.mem_iff_getElem?.1 hx'
        obtain ⟨cs', _, _, _, r3⟩ := hxs i x hi
        refine r3 (weightsAll_mem hw.2.1 (D i) ?_)
        have : i < len := by rw [← hxl]; exact (List.getElem?_eq_some_iff.1 hi).1
        simp only [List.mem_map, List.mem_range]
        exact ⟨i, this, rfl⟩
theorem reads_arr {n : Nat} {u : Ty} (ih : Reads enc P w sp u) : Reads enc P w sp (.arr n u) := by
  refine ⟨fun t ht fuel cs d ps h => ?_, fun fs o h => h.elim⟩
  obtain ⟨e, h1, h2, h3, h5⟩ := ht
  cases fuel with
  | zero => simp [DataW.trod] at h
  | succ m =>
    unfold DataW.trod at h
    rw [h1] at h
    simp only [] at h
    split at h
    · rename_i hl
      cases hm : (List.range n).mapM (fun i => DataW.trod enc P w 0 sp true m e ((cs.drop (i * P.cellsOf e)).take (P.cellsOf e))) with
      | none => rw [hm] at h; simp at h
      | some xs =>
        rw [hm] at h
        simp only [Option.map_some, Option.some.injEq, Prod.mk.injEq] at h
        obtain ⟨rfl, rfl⟩ := h
        obtain ⟨g1, g2⟩ := mapM_some hm
        simp only [List.length_range] at g1
        obtain ⟨ys, hyl, hys⟩ := list_choice (α := u.D) (Q := fun i x => Rd (fun b => b < w.heap.size) w u ((cs.drop (i * u.size)).take u.size) x ∧ Good u x ∧ (∀ y, xs[i]? = some y → (DataW.weights P e y.1).all (fun n => decide (n ≤ reachBytes)) = true → Fit u x)) n (fun i hi => by
          obtain ⟨y, hy, ht⟩ := g2 i i (by simp [hi])
          rw [h2] at ht
          obtain ⟨x, r1, r2, r3⟩ := ih.1 e h5 m _ y.1 y.2 ht
          refine ⟨x, r1, r2, fun y' hy' => ?_⟩
          rw [hy] at hy'; cases hy'; exact r3)
        refine ⟨ys, ⟨hyl, by rw [hl, h3], fun i x hi => (hys i x hi).1⟩, fun x hx => ?_, fun hw x hx => ?_⟩
        · obtain ⟨i, hi⟩ := List.mem_iff_getElem?.1 hx
          exact (hys i x hi).2.1
        · obtain ⟨i, hi⟩ := List.mem_iff_getElem?.1 hx
          have hlt : i < xs.length := by rw [g1, ← hyl]; exact (List.getElem?_eq_some_iff.1 hi).1
          rw [DataW.weights, h1] at hw
          exact (hys i x hi).2.2 xs[i] (List.getElem?_eq_getElem hlt) (weightsAll_mem hw _ (List.mem_map_of_mem (List.getElem_mem hlt)))
    · cases h
theorem reads_pair {a b : Ty} (iha : Reads enc P w sp a) (ihb : Reads enc P w sp b) : Reads enc P w sp (.pair a b) := by
  have F : ∀ (fs : List Field) (o : Nat), (is2 P (.pair a b)).2 fs o → ∀ (n : Nat) (cs : List Value) (xs : List (DataW H × List MemPlace)), cs.length = o + (a.size + b.size) → xs.length = fs.length →
    (∀ (i : Nat) (f : Field), fs[i]? = some f → DataW.trod enc P w 0 sp true n f.type ((cs.drop f.offset).take (P.cellsOf f.type)) = xs[i]?) →
    ∃ x : a.D × b.D, Rd (fun b => b < w.heap.size) w (.pair a b) (cs.drop o) x ∧ Good (.pair a b) x ∧ ((DataW.weightsEach P (fs.map (·.type)) (xs.map (·.1))).all (fun n => decide (n ≤ reachBytes)) = true → Fit (.pair a b) x) := by
    intro fs o h n cs xs hl hxl hx
    match fs, h, xs, hxl with
    | [f, g], h, [y, z], _ =>
      obtain ⟨h1, h2, h3, h4, h5, h6⟩ := h
      have ty := hx 0 f rfl
      have tz := hx 1 g rfl
      rw [h1, h2] at ty
      rw [h4, h5] at tz
      obtain ⟨x, r1, r2, r3⟩ := iha.1 _ h3 n _ y.1 y.2 ty
      obtain ⟨x', q1, q2, q3⟩ := ihb.1 _ h6 n _ z.1 z.2 tz
      refine ⟨(x, x'), ⟨_, _, ?_, r1, q1⟩, ⟨r2, q2⟩, fun hw => ?_⟩
      · rw [List.take_of_length_le (l := cs.drop (o + a.size)) (by rw [List.length_drop]; omega), ← List.drop_drop, List.take_append_drop]
      · obtain ⟨w1, w2⟩ := weightsEach_cons hw
        exact ⟨r3 w1, q3 (weightsEach_cons w2).1⟩
    | f :: g :: k :: r, h, y :: xs, hxl =>
      obtain ⟨h1, h2, h3, h4⟩ := h
      have ty := hx 0 f rfl
      rw [h1, h2] at ty
      obtain ⟨x, r1, r2, r3⟩ := iha.1 _ h3 n _ y.1 y.2 ty
      obtain ⟨x', q1, q2, q3⟩ := ihb.2 _ _ h4 n cs xs (by omega) (by simpa using hxl) (fun i f' hi => hx (i + 1) f' (by simpa using hi))
      refine ⟨(x, x'), ⟨_, _, ?_, r1, q1⟩, ⟨r2, q2⟩, fun hw => ?_⟩
      · rw [← List.drop_drop, List.take_append_drop]
      · obtain ⟨w1, w2⟩ := weightsEach_cons hw
        exact ⟨r3 w1, q3 w2⟩
    | [], h, _, _ => exact h.elim
    | [_], h, _, _ => exact h.elim
  refine ⟨fun t ht fuel cs d ps h => ?_, F⟩
  obtain ⟨fs, h1, h2, h3⟩ := ht
  obtain ⟨xs, n, rfl, e, hl, hxl, hx⟩ := DataW.trod_struct h1 h
  cases e
  obtain ⟨x, r1, r2, r3⟩ := F fs.toList 0 h3 n cs xs (by rw [hl, h2]; omega) (by simpa using hxl) (fun i f hi => hx i f (by simpa using hi))
  refine ⟨x, by simpa using r1, r2, fun hw => r3 ?_⟩
  rw [DataW.weights, h1] at hw
  exact hw
theorem reads : ∀ (u : Ty), Reads enc P w sp u
  | .int _ => reads_int
  | .bool => reads_bool
  | .str => reads_str
  | .sl u => reads_sl (reads u)
  | .arr _ u => reads_arr (reads u)
  | .pair a b => reads_pair (reads a) (reads b)
  | .ref _ => ⟨fun _ ht => ht.elim, fun _ _ h => h.elim⟩
  | .err => ⟨fun _ ht => ht.elim, fun _ _ h => h.elim⟩
  | .mp _ _ => ⟨fun _ ht => ht.elim, fun _ _ h => h.elim⟩
end
end Go.Sx
/-
  Sx, part W: a loop's invariant told by its variables: which slots stay, which hold data, which hold memory of our own.
-/
namespace Go.Sx

@[reducible] def I64 : Ty := .int .i64
@[reducible] def U64 : Ty := .int .u64
@[reducible] def I32 : Ty := .int .i32
@[reducible] def U32 : Ty := .int .u32
@[reducible] def I16 : Ty := .int .i16
@[reducible] def U16 : Ty := .int .u16
@[reducible] def I8 : Ty := .int .i8
@[reducible] def U8 : Ty := .int .u8
@[reducible] def Bo : Ty := .bool
@[reducible] def Str : Ty := .str
theorem holds_iff {p : Prop} : Holds p ↔ p := ⟨fun h => h.out, fun h => ⟨h⟩⟩

inductive PS where
  | d (t : Ty)
  | row (t : Ty)
  | keep
  | lit (n : Int)
  | map (kk : IntKind) (t : Ty)
  | orp (n : Nat) (t : Ty)
  | rown (t : Ty)
@[reducible] def PS.G : PS → Type
  | .d t => t.D
  | .row t => List t.D
  | .keep => Unit
  | .lit _ => Unit
  | .map _ t => List (Int × t.D)
  | .orp _ t => List (List t.D)
  | .rown t => List t.D
@[reducible] def psG : List PS → Type
  | [] => Unit
  | p :: ps => match ps with
    | [] => p.G
    | _ :: _ => p.G × psG ps
inductive LV where
  | keep (d : Nat)
  | one (d : Nat) (p : PS)
  | agg (d : Nat) (ps : List PS)
  | box (d : Nat) (ps : List PS)
  | own (d : Nat) (t : Ty)
  | ownm (d : Nat) (kk : IntKind) (t : Ty)
  | bk
  | itm (d : Nat) (kk : IntKind) (t : Ty)
  | pl (p : Nat) (t : Ty)
  | cb (d i : Nat) (ps : List PS)
@[reducible] def lvG : List LV → Type
  | [] => Unit
  | .keep _ :: r => lvG r
  | .bk :: r => lvG r
  | .one _ p :: r => p.G × lvG r
  | .agg _ ps :: r => psG ps × lvG r
  | .box _ ps :: r => psG ps × lvG r
  | .own _ t :: r => List t.D × lvG r
  | .ownm _ _ t :: r => List (Int × t.D) × lvG r
  | .itm _ _ t :: r => List (Int × t.D) × lvG r
  | .pl _ t :: r => List (Int × t.D) × lvG r
  | .cb _ _ ps :: r => psG ps × lvG r

def expLen : Ty → Nat
  | .pair a b => expLen a + expLen b
  | _ => 1
def hdPV : List PV → PV
  | [] => .any
  | p :: _ => p
def PS.mk (e : List PV) (n : Nat) : (p : PS) → p.G → List PV × List (Nat × HE) × Nat
  | .d t, x => (explode t x, [], n)
  | .row t, xs => ([.row n], [(n, .row t xs)], n + 1)
  | .keep, _ => ([hdPV e], [], n)
  | .lit i, _ => ([.d (.int .i64) i], [], n)
  | .map kk t, xs => ([.row n], [(n, .map kk t xs)], n + 1)
  | .orp m t, xss => ([.orp n m none], [(n, .orw t xss)], n + 1)
  | .rown t, xs => (match hdPV e with
    | .row k => ([.row k], [(k, .row t xs)], n)
    | q => ([q], [], n))
def PS.len : PS → Nat
  | .d t => expLen t
  | _ => 1
def psMk : (ps : List PS) → List PV → Nat → psG ps → List PV × List (Nat × HE) × Nat
  | [], _, n, _ => ([], [], n)
  | [p], e, n, x => p.mk e n x
  | p :: q :: r, e, n, x => (match p.mk e n x.1 with
    | (a, h, n1) => (match psMk (q :: r) (e.drop p.len) n1 x.2 with
      | (b, h', n2) => (a ++ b, h ++ h', n2)))
def PV.nms : PV → List Nat
  | .row k => [k]
  | .ptr k _ => [k]
  | .clo k => [k]
  | .rel k _ _ _ => [k]
  | .rea k _ _ _ _ _ _ _ => [k]
  | .pea k _ _ _ _ _ _ _ _ _ => [k]
  | .pel k _ _ _ _ _ => [k]
  | .sub k k' _ _ _ => [k, k']
  | .bsl k _ _ _ => [k]
  | .itr k _ => [k]
  | .orp k _ h => (match h with
    | none => [k]
    | some (_, k') => [k, k'])
  | _ => []
def psNms : List PV → List Nat
  | [] => []
  | p :: ps => p.nms ++ psNms ps
def SV.nms : SV → List Nat
  | .one p => p.nms
  | .agg ps => psNms ps
  | _ => []
def HE.nms : HE → List Nat
  | .box ps => psNms ps
  | .clo _ ps => psNms ps
  | _ => []
def addN (s : St) : Nat → List Nat → List (Nat × HE) → List (Nat × HE)
  | 0, _, acc => acc
  | _ + 1, [], acc => acc
  | f + 1, k :: r, acc => (match assoc acc k with
    | some _ => addN s f r acc
    | none => (match s.hp k with
      | some he => addN s f (he.nms ++ r) (acc ++ [(k, he)])
      | none => addN s f r acc))
def boxAt (s : St) (d : Nat) : List PV := match lget s.fr d with
  | .one (.ptr k _) => (match s.hp k with
    | some (.box ps) => ps
    | _ => [])
  | _ => []
def ptrAt (s : St) (d : Nat) : Nat := match lget s.fr d with
  | .one (.ptr k _) => k
  | _ => 0
def rowAt (s : St) (d : Nat) : Nat := match lget s.fr d with
  | .one (.row k) => k
  | _ => 0
def nthP : List PV → Nat → PV
  | [], _ => .any
  | p :: _, 0 => p
  | _ :: r, n + 1 => nthP r n
def cbPtr (s : St) (d i : Nat) : Nat := match lget s.fr d with
  | .one (.clo c) => (match s.hp c with
    | some (.clo _ caps) => (match nthP caps i with
      | .ptr k _ => k
      | _ => 0)
    | _ => 0)
  | _ => 0
def cbBox (s : St) (d i : Nat) : List PV := match s.hp (cbPtr s d i) with
  | some (.box ps) => ps
  | _ => []
def agAt (s : St) (d : Nat) : List PV := match (lget s.fr d).parts with
  | some ps => ps
  | none => []
def slotOf (p : PS) (ps : List PV) : SV := match p with
  | .d t => (bif t.agg then .agg ps else .one (hdPV ps))
  | _ => .one (hdPV ps)
def itAt (s : St) (kk : IntKind) (t : Ty) (d : Nat) : Option (Nat × Nat × List (Int × t.D) × List (Int × t.D)) := match lget s.fr d with
  | .one (.itr k _) => (match s.hp k with
    | some (.mapit kk' u xs r rem _) => (match castM kk' u kk t xs, castM kk' u kk t rem with
      | some xs, some rem => some (k, r, xs, rem)
      | _, _ => none)
    | _ => none)
  | _ => none
def St.its (s : St) (t : Ty) (d : Nat) : List (Int × t.D) := match itAt s .i64 t d with
  | some (_, _, xs, _) => xs
  | none => []
def plAt (s : St) (p : Nat) (t : Ty) : Option (List (Int × t.D)) := match s.hp (poolN p) with
  | some (.pool u m) => castM .i64 u .i64 t m
  | none => bif s.us (poolN p) then none else some []
  | _ => none
structure Mk where
  slots : List (Nat × SV)
  heap : List (Nat × HE)
  todo : List Nat
  nx : Nat
def bkNms : List SV → List Nat
  | [] => []
  | v :: r => v.nms ++ bkNms r
def lvMk (s : St) : (vs : List LV) → Nat → lvG vs → Mk
  | [], n, _ => ⟨[], [], [], n⟩
  | .keep d :: r, n, g => (match lvMk s r n g with
    | ⟨sl, h, td, n'⟩ => ⟨(d, lget s.fr d) :: sl, h, (lget s.fr d).nms ++ td, n'⟩)
  | .bk :: r, n, g => (match lvMk s r n g with
    | ⟨sl, h, td, n'⟩ => ⟨sl, h, bkNms s.bk ++ td, n'⟩)
  | .one d p :: r, n, g => (match p.mk [] n g.1 with
    | (ps, h1, n1) => (match lvMk s r n1 g.2 with
      | ⟨sl, h, td, n'⟩ => ⟨(d, slotOf p ps) :: sl, h1 ++ h, td, n'⟩))
  | .agg d ps :: r, n, g => (match psMk ps (agAt s d) n g.1 with
    | (qs, h1, n1) => (match lvMk s r n1 g.2 with
      | ⟨sl, h, td, n'⟩ => ⟨(d, .agg qs) :: sl, h1 ++ h, psNms qs ++ td, n'⟩))
  | .box d ps :: r, n, g => (match psMk ps (boxAt s d) n g.1 with
    | (qs, h1, n1) => (match lvMk s r n1 g.2 with
      | ⟨sl, h, td, n'⟩ => ⟨(d, lget s.fr d) :: sl, (ptrAt s d, .box qs) :: (h1 ++ h), psNms qs ++ td, n'⟩))
  | .own d t :: r, n, g => (match lvMk s r n g.2 with
    | ⟨sl, h, td, n'⟩ => ⟨(d, lget s.fr d) :: sl, (rowAt s d, .row t g.1) :: h, td, n'⟩)
  | .ownm d kk t :: r, n, g => (match lvMk s r n g.2 with
    | ⟨sl, h, td, n'⟩ => ⟨(d, lget s.fr d) :: sl, (rowAt s d, .map kk t g.1) :: h, td, n'⟩)
  | .itm d kk t :: r, n, g => (match lvMk s r n g.2 with
    | ⟨sl, h, td, n'⟩ => (match itAt s kk t d with
      | some (k, b, xs, _) => ⟨(d, lget s.fr d) :: sl, (k, .mapit kk t xs b g.1 none) :: h, td, n'⟩
      | none => ⟨(d, lget s.fr d) :: sl, h, td, n'⟩))
  | .cb d i ps :: r, n, g => (match psMk ps (cbBox s d i) n g.1 with
    | (qs, h1, n1) => (match lvMk s r n1 g.2 with
      | ⟨sl, h, td, n'⟩ => ⟨sl, (cbPtr s d i, .box qs) :: (h1 ++ h), psNms qs ++ td, n'⟩))
  | .pl p t :: r, n, g => (match lvMk s r n g.2 with
    | ⟨sl, h, td, n'⟩ => ⟨sl, (poolN p, .pool t g.1) :: h, td, n'⟩)
def PS.rd (s : St) : (p : PS) → List PV → Option (p.G × List PV)
  | .d t, ps => rdP t ps
  | .row t, ps => (match ps with
    | .row k :: r => (match s.hp k with
      | some (.row u xs) => (match castD (.sl u) (.sl t) xs with
        | some ys => some (ys, r)
        | none => none)
      | _ => none)
    | .con (.slice none 0 0) :: r => some ([], r)
    | _ => none)
  | .keep, ps => (match ps with
    | _ :: r => some ((), r)
    | [] => none)
  | .lit _, ps => (match ps with
    | _ :: r => some ((), r)
    | [] => none)
  | .map kk t, ps => (match ps with
    | .row k :: r => (match mapOf (s.hp k) with
      | some (kk', ⟨u, xs⟩) => (match castM kk' u kk t xs with
        | some ys => some (ys, r)
        | none => none)
      | none => none)
    | _ => none)
  | .orp m t, ps => (match ps with
    | .orp ko n h :: r => (match s.hp ko with
      | some (.orw u xss) => bif !(Nat.beq n m) then none else (match orwBack s u xss h with
        | some (_, xss1) => (match castD (.sl (.sl u)) (.sl (.sl t)) xss1 with
          | some yss => some (yss, r)
          | none => none)
        | none => none)
      | _ => none)
    | _ => none)
  | .rown t, ps => (match ps with
    | .row k :: r => (match s.hp k with
      | some (.row u xs) => (match castD (.sl u) (.sl t) xs with
        | some ys => some (ys, r)
        | none => none)
      | _ => none)
    | _ => none)
def psRd (s : St) : (ps : List PS) → List PV → Option (psG ps)
  | [], l => (match l with
    | [] => some ()
    | _ => none)
  | [p], l => (match p.rd s l with
    | some (x, []) => some x
    | _ => none)
  | p :: q :: r, l => (match p.rd s l with
    | some (x, l') => (match psRd s (q :: r) l' with
      | some y => some (x, y)
      | none => none)
    | none => none)
def lvRd (s : St) : (vs : List LV) → Option (lvG vs)
  | [] => some ()
  | .keep _ :: r => lvRd s r
  | .bk :: r => lvRd s r
  | .one d p :: r => (match psRd s [p] (agAt s d), lvRd s r with
    | some x, some y => some (x, y)
    | _, _ => none)
  | .agg d ps :: r => (match psRd s ps (agAt s d), lvRd s r with
    | some x, some y => some (x, y)
    | _, _ => none)
  | .box d ps :: r => (match psRd s ps (boxAt s d), lvRd s r with
    | some x, some y => some (x, y)
    | _, _ => none)
  | .own d t :: r => (match psRd s [.row t] (agAt s d), lvRd s r with
    | some x, some y => some (x, y)
    | _, _ => none)
  | .ownm d kk t :: r => (match psRd s [.map kk t] (agAt s d), lvRd s r with
    | some x, some y => some (x, y)
    | _, _ => none)
  | .itm d kk t :: r => (match itAt s kk t d, lvRd s r with
    | some (_, _, _, x), some y => some (x, y)
    | _, _ => none)
  | .cb d i ps :: r => (match psRd s ps (cbBox s d i), lvRd s r with
    | some x, some y => some (x, y)
    | _, _ => none)
  | .pl p t :: r => (match plAt s p t, lvRd s r with
    | some x, some y => some (x, y)
    | _, _ => none)
def PS.lens : (p : PS) → p.G → Prop
  | .d t, x => Lens t x
  | .row t, xs => Lens (.sl t) xs
  | .keep, _ => True
  | .lit _, _ => True
  | .map kk t, xs => ∀ e ∈ xs, IR kk e.1 ∧ Lens t e.2
  | .rown t, xs => Lens (.sl t) xs
  | .orp n t, xss => xss.length = n ∧ ∀ xs ∈ xss, xs.length ≤ 9223372036854775807 ∧ ∀ x ∈ xs, Lens t x
def psLens : (ps : List PS) → psG ps → Prop
  | [], _ => True
  | [p], x => p.lens x
  | p :: q :: r, x => p.lens x.1 ∧ psLens (q :: r) x.2
def lvLens : (vs : List LV) → lvG vs → Prop
  | [], _ => True
  | .keep _ :: r, g => lvLens r g
  | .bk :: r, g => lvLens r g
  | .one _ p :: r, g => p.lens g.1 ∧ lvLens r g.2
  | .agg _ ps :: r, g => psLens ps g.1 ∧ lvLens r g.2
  | .box _ ps :: r, g => psLens ps g.1 ∧ lvLens r g.2
  | .own _ t :: r, g => (PS.row t).lens g.1 ∧ lvLens r g.2
  | .ownm _ kk t :: r, g => (PS.map kk t).lens g.1 ∧ lvLens r g.2
  | .itm _ kk t :: r, g => (PS.map kk t).lens g.1 ∧ lvLens r g.2
  | .cb _ _ ps :: r, g => psLens ps g.1 ∧ lvLens r g.2
  | .pl _ t :: r, g => ((g.1.map (·.1)).Nodup ∧ ∀ e ∈ g.1, 0 ≤ e.1 ∧ Lens t e.2) ∧ lvLens r g.2
theorem MapC.lens {c : Cx} {kk : IntKind} {t : Ty} : ∀ {es : List MapEntry} {xs : List (Int × t.D)}, MapC c kk t es xs → ∀ e ∈ xs, IR kk e.1 ∧ Lens t e.2
  | [], [], _ => fun e he => by cases he
  | _ :: _, x :: xs, ⟨⟨_, h1, h2⟩, h3⟩ => fun e he => by
    rcases List.mem_cons.1 he with rfl | he
    · exact ⟨h1, h2.lens⟩
    · exact MapC.lens h3 e he
  | [], _ :: _, h => h.elim
  | _ :: _, [], h => h.elim
section
variable {w0 : Base} {ρ : Nat → Value} {s : St} {a : Act} {w : World}
theorem PS.rd_c (h : Ok w0 ρ s a w) {p : PS} {ps r : List PV} {x : p.G} {l : List Value} (hr : p.rd s ps = some (x, r)) (hl : PsC (cx w0 ρ s w) ps l) : p.lens x ∧ ∃ l', PsC (cx w0 ρ s w) r l' := by
  cases p with
  | d t =>
    obtain ⟨h1, h2⟩ := rdP_c (t := t) hr hl
    exact ⟨h1.lens, _, h2⟩
  | row t =>
    simp only [PS.rd] at hr
    split at hr
    · rename_i k r'
      split at hr
      · rename_i u xs hk
        split at hr
        · rename_i ys hc
          simp only [Option.some.injEq, Prod.mk.injEq] at hr
          obtain ⟨rfl, rfl⟩ := hr
          obtain ⟨e2, he2⟩ := castD_eq hc
          injection e2 with e2
          subst e2
          have he2 : xs = ys := he2
          subst he2
          obtain ⟨l1, l2, _, _, h2⟩ := hl
          refine ⟨?_, l2, h2⟩
          rcases h.heap k _ hk with ⟨_, rfl⟩ | ⟨b, q, cp, cur, e', _, _, h3, h4, _, h6⟩
          · exact ⟨by simp, fun x hx => by cases hx⟩
          · refine ⟨by simp only [maxLen] at h4; omega, fun x hx => ?_⟩
            obtain ⟨i, hi⟩ := List.mem_iff_getElem?.1 hx
            exact (h6 i x hi).lens
        · cases hr
      · cases hr
    · simp only [Option.some.injEq, Prod.mk.injEq] at hr
      obtain ⟨rfl, rfl⟩ := hr
      obtain ⟨l1, l2, _, _, h2⟩ := hl
      exact ⟨⟨by simp, fun x hx => by cases hx⟩, l2, h2⟩
    · cases hr
  | rown t =>
    simp only [PS.rd] at hr
    split at hr
    · rename_i k r'
      split at hr
      · rename_i u xs hk
        split at hr
        · rename_i ys hc
          simp only [Option.some.injEq, Prod.mk.injEq] at hr
          obtain ⟨rfl, rfl⟩ := hr
          obtain ⟨e2, he2⟩ := castD_eq hc
          injection e2 with e2
          subst e2
          have he2 : xs = ys := he2
          subst he2
          obtain ⟨l1, l2, _, _, h2⟩ := hl
          refine ⟨?_, l2, h2⟩
          rcases h.heap k _ hk with ⟨_, rfl⟩ | ⟨b, q, cp, cur, e', _, _, h3, h4, _, h6⟩
          · exact ⟨by simp, fun x hx => by cases hx⟩
          · refine ⟨by simp only [maxLen] at h4; omega, fun x hx => ?_⟩
            obtain ⟨i, hi⟩ := List.mem_iff_getElem?.1 hx
            exact (h6 i x hi).lens
        · cases hr
      · cases hr
    · cases hr
  | keep =>
    simp only [PS.rd] at hr
    split at hr
    · simp only [Option.some.injEq, Prod.mk.injEq] at hr
      obtain ⟨_, rfl⟩ := hr
      obtain ⟨l1, l2, _, _, h2⟩ := hl
      exact ⟨trivial, l2, h2⟩
    · cases hr
  | lit i =>
    simp only [PS.rd] at hr
    split at hr
    · simp only [Option.some.injEq, Prod.mk.injEq] at hr
      obtain ⟨_, rfl⟩ := hr
      obtain ⟨l1, l2, _, _, h2⟩ := hl
      exact ⟨trivial, l2, h2⟩
    · cases hr
  | map kk t =>
    simp only [PS.rd] at hr
    split at hr
    · rename_i k r'
      split at hr
      · rename_i kk' u xs hk
        split at hr
        · rename_i ys hc
          simp only [Option.some.injEq, Prod.mk.injEq] at hr
          obtain ⟨rfl, rfl⟩ := hr
          obtain ⟨l1, l2, _, _, h2⟩ := hl
          refine ⟨?_, l2, h2⟩
          unfold castM at hc
          split at hc
          · rename_i he
            obtain ⟨rfl, rfl⟩ := he
            cases hc
            obtain ⟨_, _, _, b, es, cl, _, _, h3, _⟩ := mapOf_c h hk
            exact MapC.lens h3
          · cases hc
        · cases hr
      · cases hr
    · cases hr
  | orp m t =>
    simp only [PS.rd] at hr
    split at hr
    · rename_i ko n g r'
      split at hr
      · rename_i u xss hk
        cases hb : Nat.beq n m with
        | false => rw [hb] at hr; cases hr
        | true =>
          rw [hb] at hr
          simp only [Bool.not_true, cond_false] at hr
          have hn := Nat.eq_of_beq_eq_true hb
          subst hn
          split at hr
          · rename_i s1 xss1 hbk
            split at hr
            · rename_i yss hc
              simp only [Option.some.injEq, Prod.mk.injEq] at hr
              obtain ⟨rfl, rfl⟩ := hr
              obtain ⟨e2, e3⟩ := castD_eq hc
              injection e2 with e2
              injection e2 with e2
              subst e2
              have e3 : xss1 = yss := e3
              subst e3
              obtain ⟨q, l2, _, hq, h2⟩ := hl
              obtain ⟨hH, hql, _⟩ := orw_open h hk hq hbk
              refine ⟨⟨by rw [← hH.1]; exact hql, fun xs hx => ?_⟩, l2, h2⟩
              obtain ⟨i, hi⟩ := List.mem_iff_getElem?.1 hx
              have hil : i < q.length := by rw [hH.1]; exact (List.getElem?_eq_some_iff.1 hi).1
              rcases hH.2.1 i _ xs (List.getElem?_eq_getElem hil) hi with ⟨_, rfl⟩ | ⟨b, o, cp, cur, e, _, _, g3, g4, _, g6⟩
              · exact ⟨by simp, fun x hx => by cases hx⟩
              · refine ⟨by simp only [maxLen] at g4; omega, fun x hx => ?_⟩
                obtain ⟨j, hj⟩ := List.mem_iff_getElem?.1 hx
                exact (g6 j x hj).lens
            · cases hr
          · cases hr
      · cases hr
    · cases hr
theorem psRd_c (h : Ok w0 ρ s a w) : ∀ {ps : List PS} {l : List PV} {g : psG ps} {cs : List Value}, psRd s ps l = some g → PsC (cx w0 ρ s w) l cs → psLens ps g
  | [], _, _, _, _, _ => trivial
  | [p], l, g, cs, hr, hl => by
    unfold psRd at hr
    split at hr
    · rename_i x hx
      simp only [Option.some.injEq] at hr
      subst hr
      exact (PS.rd_c h hx hl).1
    · cases hr
  | p :: q :: r, l, g, cs, hr, hl => by
    unfold psRd at hr
    split at hr
    · rename_i x l' hx
      split at hr
      · rename_i y hy
        simp only [Option.some.injEq] at hr
        subst hr
        obtain ⟨h1, l2, h2⟩ := PS.rd_c h hx hl
        exact ⟨h1, psRd_c h hy h2⟩
      · cases hr
    · cases hr
theorem agAt_c (h : Ok w0 ρ s a w) (d : Nat) : ∃ cs, PsC (cx w0 ρ s w) (agAt s d) cs := by
  unfold agAt
  split
  · rename_i ps hps
    exact ⟨_, SVparts_c (h.frame d) hps⟩
  · exact ⟨[], rfl⟩
theorem boxAt_c (h : Ok w0 ρ s a w) (d : Nat) : ∃ cs, PsC (cx w0 ρ s w) (boxAt s d) cs := by
  unfold boxAt
  split
  · split
    · rename_i k off _ ps hps
      obtain ⟨_, _, cs, _, _, h3⟩ := h.heap _ _ hps
      exact ⟨_, h3⟩
    · exact ⟨[], rfl⟩
  · exact ⟨[], rfl⟩
theorem cbBox_c (h : Ok w0 ρ s a w) (d i : Nat) : ∃ cs, PsC (cx w0 ρ s w) (cbBox s d i) cs := by
  unfold cbBox
  split
  · rename_i ps hps
    obtain ⟨_, _, cs, _, _, h3⟩ := h.heap _ _ hps
    exact ⟨_, h3⟩
  · exact ⟨[], rfl⟩
theorem lvRd_c (h : Ok w0 ρ s a w) : ∀ {vs : List LV} {g : lvG vs}, lvRd s vs = some g → lvLens vs g
  | [], _, _ => trivial
  | .keep _ :: r, g, hr => lvRd_c (vs := r) h hr
  | .bk :: r, g, hr => lvRd_c (vs := r) h hr
  | .one d p :: r, g, hr => by
    unfold lvRd at hr
    split at hr
    · rename_i x y hx hy
      simp only [Option.some.injEq] at hr
      subst hr
      obtain ⟨cs, hc⟩ := agAt_c h d
      exact ⟨psRd_c (ps := [p]) h hx hc, lvRd_c h hy⟩
    · cases hr
  | .agg d ps :: r, g, hr => by
    unfold lvRd at hr
    split at hr
    · rename_i x y hx hy
      simp only [Option.some.injEq] at hr
      subst hr
      obtain ⟨cs, hc⟩ := agAt_c h d
      exact ⟨psRd_c h hx hc, lvRd_c h hy⟩
    · cases hr
  | .box d ps :: r, g, hr => by
    unfold lvRd at hr
    split at hr
    · rename_i x y hx hy
      simp only [Option.some.injEq] at hr
      subst hr
      obtain ⟨cs, hc⟩ := boxAt_c h d
      exact ⟨psRd_c h hx hc, lvRd_c h hy⟩
    · cases hr
  | .own d t :: r, g, hr => by
    unfold lvRd at hr
    split at hr
    · rename_i x y hx hy
      simp only [Option.some.injEq] at hr
      subst hr
      obtain ⟨cs, hc⟩ := agAt_c h d
      exact ⟨psRd_c (ps := [.row t]) h hx hc, lvRd_c h hy⟩
    · cases hr
  | .ownm d kk t :: r, g, hr => by
    unfold lvRd at hr
    split at hr
    · rename_i x y hx hy
      simp only [Option.some.injEq] at hr
      subst hr
      obtain ⟨cs, hc⟩ := agAt_c h d
      exact ⟨psRd_c (ps := [.map kk t]) h hx hc, lvRd_c h hy⟩
    · cases hr
  | .itm d kk t :: r, g, hr => by
    unfold lvRd at hr
    split at hr
    · rename_i k b xs x y hx hy
      simp only [Option.some.injEq] at hr
      subst hr
      refine ⟨?_, lvRd_c h hy⟩
      unfold itAt at hx
      split at hx
      · split at hx
        · rename_i kk' u xs' r' rem' cur hk
          split at hx
          · rename_i xs2 rem2 hc hc2
            simp only [Option.some.injEq, Prod.mk.injEq] at hx
            obtain ⟨rfl, rfl, rfl, rfl⟩ := hx
            obtain ⟨rfl, rfl, hc2⟩ := castM_eq hc2
            have hc2 : rem' = rem2 := hc2
            subst hc2
            obtain ⟨_, _, _, _, _, _, _, _, h5, _⟩ := h.heap _ _ hk
            exact MapC.lens h5
          · cases hx
        · cases hx
      · cases hx
    · cases hr
  | .cb d i ps :: r, g, hr => by
    unfold lvRd at hr
    split at hr
    · rename_i x y hx hy
      simp only [Option.some.injEq] at hr
      subst hr
      obtain ⟨cs, hc⟩ := cbBox_c h d i
      exact ⟨psRd_c h hx hc, lvRd_c h hy⟩
    · cases hr
  | .pl p t :: r, g, hr => by
    unfold lvRd at hr
    split at hr
    · rename_i x y hx hy
      simp only [Option.some.injEq] at hr
      subst hr
      refine ⟨?_, lvRd_c h hy⟩
      unfold plAt at hx
      split at hx
      · rename_i u m hk
        obtain ⟨_, rfl, hc⟩ := castM_eq hx
        have hc : m = x := hc
        subst hc
        have hp := h.heap _ _ hk
        refine ⟨hp.1, fun e he => ?_⟩
        obtain ⟨g0, _, _, _, g2⟩ := hp.2 e he
        exact ⟨g0, g2.lens⟩
      · cases hus : s.us (poolN p) with
        | true => rw [hus] at hx; cases hx
        | false =>
          rw [hus] at hx
          simp only [cond_false, Option.some.injEq] at hx
          subst hx
          exact ⟨List.nodup_nil, fun e he => by cases he⟩
      · cases hx
    · cases hr
end
def St.mp (s : St) (t : Ty) (d : Nat) : List (Int × t.D) := match lget s.fr d with
  | .one (.row k) => (match mapOf (s.hp k) with
    | some (kk, ⟨u, xs⟩) => (match castM kk u kk t xs with
      | some ys => ys
      | none => [])
    | none => [])
  | _ => []
def mpOf (s : St) (t : Ty) : List PV → List (Int × t.D)
  | .row n :: _ => (match mapOf (s.hp n) with
    | some (kk, ⟨u, xs⟩) => (match castM kk u .i64 t xs with
      | some ys => ys
      | none => [])
    | none => [])
  | _ => []
def St.bxm (s : St) (t : Ty) (d i : Nat) : List (Int × t.D) := mpOf s t ((boxAt s d).drop i)
def boxOf (s : St) : List PV → List PV
  | .ptr b _ :: _ => (match s.hp b with
    | some (.box ps) => ps
    | _ => [])
  | _ => []
def capB (s : St) (d : Nat) : List PV := match lget s.fr d with
  | .one (.clo k) => (match s.hp k with
    | some (.clo _ ps) => boxOf s ps
    | _ => [])
  | _ => []
def capI : List PV → Option Int
  | [.d (.int .i64) t] => some t
  | _ => none
def St.capI (s : St) (d : Nat) : Option Int := Sx.capI (capB s d)
def St.capM (s : St) (d i : Nat) : List (Int × Bool) := mpOf s .bool ((boxOf s (capB s d)).drop i)
def Ann.by (vs : List LV) (ok : St → lvG vs → Prop) (m : St → lvG vs → Nat) : Ann where
  G := lvG vs
  ok := ok
  m := m
  inv := fun s g => match lvMk s vs s.nx g with
    | ⟨sl, h, td, n⟩ => { slots := sl, heap := addN s 1000 td h, nx := n }
  pick := fun _ s => lvRd s vs
  lens := lvLens vs
  told := fun _ _ _ _ _ _ _ h hr => lvRd_c h hr
def St.pool (s : St) (t : Ty) (p : Nat) : List (Int × t.D) := match plAt s p t with
  | some m => m
  | none => []
def St.bxd (s : St) (t : Ty) (d i : Nat) : t.D := match rdP t (((boxAt s d).drop i).map (PV.res s)) with
  | some (x, _) => x
  | none => t.zero
def orwOf (s : St) (t : Ty) : List PV → List (List t.D)
  | .orp ko _ _ :: _ => (match s.hp ko with
    | some (.orw u xss) => (match castD (.sl (.sl u)) (.sl (.sl t)) xss with
      | some yss => yss
      | none => [])
    | _ => [])
  | _ => []
def St.bxo (s : St) (t : Ty) (d i : Nat) : List (List t.D) := orwOf s t ((boxAt s d).drop i)
def St.dat (s : St) (t : Ty) (d : Nat) : t.D := match rdP t ((agAt s d).map (PV.res s)) with
  | some (x, []) => x
  | _ => t.zero
end Go.Sx
/-
  Sx, part Y: what the executor is given, out of lists.
-/
namespace Go.Sx

def ctrAt : List (Nat × Ctr) → Nat → Option Ctr
  | [], _ => none
  | (k, c) :: r, n => bif Nat.beq n k then some c else ctrAt r n
def annAt : List (Nat × Nat × Ann) → Nat → Nat → Option Ann
  | [], _, _ => none
  | (k, i, a) :: r, n, j => bif Nat.beq n k && Nat.beq j i then some a else annAt r n j
def annsAt : List (Nat × Nat × Ann) → Nat → Nat → List Ann
  | [], _, _ => []
  | (k, i, a) :: r, n, j => bif Nat.beq n k && Nat.beq j i then a :: annsAt r n j else annsAt r n j
def wrAt : List (Nat × Nat) → Nat → Nat → Bool
  | [], _, _ => false
  | (k, i) :: r, n, j => bif Nat.beq n k && (Nat.beq j i || (Nat.beq i 1000000 && Nat.blt j 1000000)) then true else wrAt r n j
def ctrFAt : List (Nat × Nat × Ctr) → Nat → Nat → Option Ctr
  | [], _, _ => none
  | (k, i, c) :: r, n, j => bif Nat.beq n k && Nat.beq j i then some c else ctrFAt r n j
def mkFxF (P : Program) (E : Env) (ks : List (Nat × Ctr)) (kf : List (Nat × Nat × Ctr)) (ls cs : List (Nat × Nat × Ann)) (wr : List (Nat × Nat)) : Fx where
  E := E
  wr := wrAt wr
  K := ctrAt ks
  KF := ctrFAt kf
  fn := fun g => P.funcs[g]?
  loops := annAt ls
  cuts := annsAt cs
  PR := fun _ => none
def mkFx (P : Program) (E : Env) (ks : List (Nat × Ctr)) (ls cs : List (Nat × Nat × Ann)) (wr : List (Nat × Nat)) : Fx where
  E := E
  wr := wrAt wr
  K := ctrAt ks
  KF := fun _ _ => none
  fn := fun g => P.funcs[g]?
  loops := annAt ls
  cuts := annsAt cs
  PR := fun _ => none
def ctrCAt : List (Nat × Nat × List Nat × Ctr) → Nat → Nat → List Nat → Option Ctr
  | [], _, _, _ => none
  | (k, i, fs, c) :: r, n, j, gs => bif Nat.beq n k && Nat.beq j i && decide (gs = fs) then some c else ctrCAt r n j gs
def CtrsOk (P : Program) : List (Nat × Ctr) → Prop
  | [] => True
  | p :: r => CtrOk P p.1 p.2 ∧ CtrsOk P r
theorem ctrAt_ok {P : Program} : ∀ {ks : List (Nat × Ctr)} {g : Nat} {c : Ctr}, CtrsOk P ks → ctrAt ks g = some c → CtrOk P g c
  | [], _, _, _, h => by cases h
  | (k, c') :: r, g, c, hk, h => by
    unfold ctrAt at h
    cases e : Nat.beq g k with
    | true =>
      rw [e] at h
      have e1 := Nat.eq_of_beq_eq_true e
      injection h with h
      subst e1; subst h
      exact hk.1
    | false => rw [e] at h; exact ctrAt_ok hk.2 h
theorem ctrsOk_append {P : Program} : ∀ {a b : List (Nat × Ctr)}, CtrsOk P a → CtrsOk P b → CtrsOk P (a ++ b)
  | [], _, _, h => h
  | _ :: _, _, h, h' => ⟨h.1, ctrsOk_append h.2 h'⟩
def CtrsOkF (P : Program) : List (Nat × Nat × Ctr) → Prop
  | [] => True
  | p :: r => CtrOkF P p.1 p.2.1 p.2.2 ∧ CtrsOkF P r
theorem ctrFAt_ok {P : Program} : ∀ {ks : List (Nat × Nat × Ctr)} {g h : Nat} {c : Ctr}, CtrsOkF P ks → ctrFAt ks g h = some c → CtrOkF P g h c
  | [], _, _, _, _, h => by cases h
  | (k, i, c') :: r, g, j, c, hk, h => by
    unfold ctrFAt at h
    cases e : (Nat.beq g k && Nat.beq j i) with
    | true =>
      rw [e] at h
      simp only [Bool.and_eq_true] at e
      have e1 := Nat.eq_of_beq_eq_true e.1
      have e2 := Nat.eq_of_beq_eq_true e.2
      injection h with h
      subst e1; subst e2; subst h
      exact hk.1
    | false => rw [e] at h; exact ctrFAt_ok hk.2 h
def namesOk (P : Program) : Bool := P.funcs.toList.all fun f => !(f.name == "runtime.NumGoroutine")
theorem mkFx_all {P : Program} {E : Env} {ks : List (Nat × Ctr)} {ls cs : List (Nat × Nat × Ann)} {wr : List (Nat × Nat)} (hE : EnvOk P E) (hm : P.follows .mixedOrders = true) (hn : namesOk P = true) (hk : CtrsOk P ks) :
    FxAll P (mkFx P E ks ls cs wr) where
  ok := ⟨hE, hm⟩
  ctr := fun _ _ h => ctrAt_ok hk h
  ctrF := fun _ _ _ h => by cases h
  ctrN := fun _ _ h => by cases h
  ctrC := fun _ _ _ _ h => by cases h
  prc := fun _ _ h => by cases h
  po := fun _ _ h => by cases h
  fn := fun g fn h => by
    refine ⟨h, ?_⟩
    have hm : fn ∈ P.funcs.toList := by
      have h1 : P.funcs[g]? = some fn := h
      obtain ⟨hlt, e⟩ := Array.getElem?_eq_some_iff.1 h1
      rw [← e]; simp
    have := List.all_eq_true.1 hn fn hm
    simpa using this
theorem mkFxF_all {P : Program} {E : Env} {ks : List (Nat × Ctr)} {kf : List (Nat × Nat × Ctr)} {ls cs : List (Nat × Nat × Ann)} {wr : List (Nat × Nat)} (hE : EnvOk P E) (hm : P.follows .mixedOrders = true) (hn : namesOk P = true) (hk : CtrsOk P ks) (hkf : CtrsOkF P kf) :
    FxAll P (mkFxF P E ks kf ls cs wr) where
  ok := ⟨hE, hm⟩
  ctr := fun _ _ h => ctrAt_ok hk h
  ctrF := fun _ _ _ h => ctrFAt_ok hkf h
  ctrN := fun _ _ h => by cases h
  ctrC := fun _ _ _ _ h => by cases h
  prc := fun _ _ h => by cases h
  po := fun _ _ h => by cases h
  fn := fun g fn h => (mkFx_all (ls := ls) (cs := cs) (wr := wr) hE hm hn hk).fn g fn h
def prcAt : List (Nat × Prc) → Nat → Option Prc
  | [], _ => none
  | (k, c) :: r, n => bif Nat.beq n k then some c else prcAt r n
def PrcsOk (P : Program) : List (Nat × Prc) → Prop
  | [] => True
  | p :: r => PrcOk P p.1 p.2 ∧ PrcsOk P r
theorem prcAt_ok {P : Program} : ∀ {ks : List (Nat × Prc)} {g : Nat} {c : Prc}, PrcsOk P ks → prcAt ks g = some c → PrcOk P g c
  | [], _, _, _, h => by cases h
  | (k, c') :: r, g, c, hk, h => by
    unfold prcAt at h
    cases e : Nat.beq g k with
    | true =>
      rw [e] at h
      have e1 := Nat.eq_of_beq_eq_true e
      injection h with h
      subst e1; subst h
      exact hk.1
    | false => rw [e] at h; exact prcAt_ok hk.2 h
def mkFxG (P : Program) (E : Env) (ks : List (Nat × Ctr)) (kf : List (Nat × Nat × Ctr)) (ps : List (Nat × Prc)) (ls cs : List (Nat × Nat × Ann)) (wr : List (Nat × Nat)) : Fx where
  E := E
  wr := wrAt wr
  K := ctrAt ks
  KF := ctrFAt kf
  fn := fun g => P.funcs[g]?
  loops := annAt ls
  cuts := annsAt cs
  PR := prcAt ps
theorem mkFxG_all {P : Program} {E : Env} {ks : List (Nat × Ctr)} {kf : List (Nat × Nat × Ctr)} {ps : List (Nat × Prc)} {ls cs : List (Nat × Nat × Ann)} {wr : List (Nat × Nat)} (hE : EnvOk P E) (hm : P.follows .mixedOrders = true) (hn : namesOk P = true) (hk : CtrsOk P ks) (hkf : CtrsOkF P kf)
    (hp : PrcsOk P ps) : FxAll P (mkFxG P E ks kf ps ls cs wr) where
  ok := ⟨hE, hm⟩
  ctr := fun _ _ h => ctrAt_ok hk h
  ctrF := fun _ _ _ h => ctrFAt_ok hkf h
  ctrN := fun _ _ h => by cases h
  ctrC := fun _ _ _ _ h => by cases h
  prc := fun _ _ h => prcAt_ok hp h
  po := fun _ _ h => by cases h
  fn := fun g fn h => (mkFx_all (ls := ls) (cs := cs) (wr := wr) hE hm hn hk).fn g fn h
def CtrsOkN (P : Program) : List (Nat × Ctr) → Prop
  | [] => True
  | p :: r => CtrOkN P p.1 p.2 ∧ CtrsOkN P r
theorem ctrNAt_ok {P : Program} : ∀ {ks : List (Nat × Ctr)} {g : Nat} {c : Ctr}, CtrsOkN P ks → ctrAt ks g = some c → CtrOkN P g c
  | [], _, _, _, h => by cases h
  | (k, c') :: r, g, c, hk, h => by
    unfold ctrAt at h
    cases e : Nat.beq g k with
    | true =>
      rw [e] at h
      have e1 := Nat.eq_of_beq_eq_true e
      injection h with h
      subst e1; subst h
      exact hk.1
    | false => rw [e] at h; exact ctrNAt_ok hk.2 h
def CtrsOkC (P : Program) : List (Nat × Nat × List Nat × Ctr) → Prop
  | [] => True
  | p :: r => CtrOkC P p.1 p.2.1 p.2.2.1 p.2.2.2 ∧ CtrsOkC P r
theorem ctrCAt_ok {P : Program} : ∀ {ks : List (Nat × Nat × List Nat × Ctr)} {g h : Nat} {fs : List Nat} {c : Ctr}, CtrsOkC P ks → ctrCAt ks g h fs = some c → CtrOkC P g h fs c
  | [], _, _, _, _, _, h => by cases h
  | (k, i, l, c') :: r, g, j, fs, c, hk, h => by
    unfold ctrCAt at h
    cases e : (Nat.beq g k && Nat.beq j i && decide (fs = l)) with
    | true =>
      rw [e] at h
      simp only [Bool.and_eq_true, decide_eq_true_eq] at e
      have e1 := Nat.eq_of_beq_eq_true e.1.1
      have e2 := Nat.eq_of_beq_eq_true e.1.2
      have e3 := e.2
      injection h with h
      subst e1; subst e2; subst e3; subst h
      exact hk.1
    | false => rw [e] at h; exact ctrCAt_ok hk.2 h
def mkFxX (P : Program) (E : Env) (ks : List (Nat × Ctr)) (kf : List (Nat × Nat × Ctr)) (ps : List (Nat × Prc)) (kn : List (Nat × Ctr)) (kc : List (Nat × Nat × List Nat × Ctr)) (ls cs : List (Nat × Nat × Ann)) (wr : List (Nat × Nat)) : Fx where
  E := E
  wr := wrAt wr
  K := ctrAt ks
  KF := ctrFAt kf
  fn := fun g => P.funcs[g]?
  loops := annAt ls
  cuts := annsAt cs
  PR := prcAt ps
  KN := ctrAt kn
  KC := ctrCAt kc
theorem mkFxX_all {P : Program} {E : Env} {ks : List (Nat × Ctr)} {kf : List (Nat × Nat × Ctr)} {ps : List (Nat × Prc)} {kn : List (Nat × Ctr)} {kc : List (Nat × Nat × List Nat × Ctr)} {ls cs : List (Nat × Nat × Ann)} {wr : List (Nat × Nat)} (hE : EnvOk P E) (hm : P.follows .mixedOrders = true) (hn : namesOk P = true) (hk : CtrsOk P ks) (hkf : CtrsOkF P kf)
    (hp : PrcsOk P ps) (hkn : CtrsOkN P kn) (hkc : CtrsOkC P kc) : FxAll P (mkFxX P E ks kf ps kn kc ls cs wr) where
  ok := ⟨hE, hm⟩
  ctr := fun _ _ h => ctrAt_ok hk h
  ctrF := fun _ _ _ h => ctrFAt_ok hkf h
  ctrN := fun _ _ h => ctrNAt_ok hkn h
  ctrC := fun _ _ _ _ h => ctrCAt_ok hkc h
  prc := fun _ _ h => prcAt_ok hp h
  po := fun _ _ h => by cases h
  fn := fun g fn h => (mkFx_all (ls := ls) (cs := cs) (wr := wr) hE hm hn hk).fn g fn h
def poAt : List (Nat × Prc × Nat) → Nat → Option (Prc × Nat)
  | [], _ => none
  | (k, c) :: r, n => bif Nat.beq n k then some c else poAt r n
def PosOk (P : Program) : List (Nat × Prc × Nat) → Prop
  | [] => True
  | p :: r => PrcOkO P p.1 p.2.1 p.2.2 ∧ PosOk P r
theorem poAt_ok {P : Program} : ∀ {ks : List (Nat × Prc × Nat)} {g : Nat} {c : Prc × Nat}, PosOk P ks → poAt ks g = some c → PrcOkO P g c.1 c.2
  | [], _, _, _, h => by cases h
  | (k, c') :: r, g, c, hk, h => by
    unfold poAt at h
    cases e : Nat.beq g k with
    | true =>
      rw [e] at h
      have e1 := Nat.eq_of_beq_eq_true e
      injection h with h
      subst e1; subst h
      exact hk.1
    | false => rw [e] at h; exact poAt_ok hk.2 h
def mkFxO (P : Program) (E : Env) (ks : List (Nat × Ctr)) (kf : List (Nat × Nat × Ctr)) (ps : List (Nat × Prc)) (po : List (Nat × Prc × Nat)) (kn : List (Nat × Ctr)) (kc : List (Nat × Nat × List Nat × Ctr)) (ls cs : List (Nat × Nat × Ann)) (wr : List (Nat × Nat)) : Fx :=
  { mkFxX P E ks kf ps kn kc ls cs wr with PO := poAt po }
theorem mkFxO_all {P : Program} {E : Env} {ks : List (Nat × Ctr)} {kf : List (Nat × Nat × Ctr)} {ps : List (Nat × Prc)} {po : List (Nat × Prc × Nat)} {kn : List (Nat × Ctr)} {kc : List (Nat × Nat × List Nat × Ctr)} {ls cs : List (Nat × Nat × Ann)} {wr : List (Nat × Nat)} (hE : EnvOk P E) (hm : P.follows .mixedOrders = true) (hn : namesOk P = true) (hk : CtrsOk P ks) (hkf : CtrsOkF P kf)
    (hp : PrcsOk P ps) (hpo : PosOk P po) (hkn : CtrsOkN P kn) (hkc : CtrsOkC P kc) : FxAll P (mkFxO P E ks kf ps po kn kc ls cs wr) where
  ok := ⟨hE, hm⟩
  ctr := fun _ _ h => ctrAt_ok hk h
  ctrF := fun _ _ _ h => ctrFAt_ok hkf h
  ctrN := fun _ _ h => ctrNAt_ok hkn h
  ctrC := fun _ _ _ _ h => ctrCAt_ok hkc h
  prc := fun _ _ h => prcAt_ok hp h
  po := fun _ _ h => poAt_ok hpo h
  fn := fun g fn h => (mkFx_all (ls := ls) (cs := cs) (wr := wr) hE hm hn hk).fn g fn h
def canon (fr : List SV) (hp : List (Nat × HE)) (nx : Nat) : St := { fr := fr, hp := assoc hp, us := fun n => (assoc hp n).isSome, nx := nx, bk := [] }
def Prc.by (n : Nat) (s0 : St) (vs : List LV) (pre : lvG vs → Prop) (rs : List Ty) (f : lvG vs → lvG vs × HL rs) : Prc where
  n := n
  G := lvG vs
  inv := fun g => match lvMk s0 vs s0.nx g with
    | ⟨sl, h, td, m⟩ => { slots := sl, heap := addN s0 1000 td h, nx := m }
  pick := fun s => lvRd s vs
  lens := lvLens vs
  told := fun _ _ _ _ _ _ h hr => lvRd_c h hr
  pre := pre
  rs := rs
  f := f
end Go.Sx
/-
  Sx, part X: from a function's contract to a row that says: it returns true, and its arguments read as before.
-/
namespace Go.Sx
open Go.RowKit Go.WideShapes Go.ChangeShapes

def tysAre (P : Program) : List Ty → List TypeId → Prop
  | [], [] => True
  | u :: us, t :: ts => tyIs P u t ∧ tysAre P us ts
  | _, _ => False
def GoodL : (us : List Ty) → HL us → Prop
  | [], _ => True
  | u :: us, x => Good u x.1 ∧ GoodL us x.2
def FitL : (us : List Ty) → HL us → Prop
  | [], _ => True
  | u :: us, x => Fit u x.1 ∧ FitL us x.2

section
variable {H : Type} {enc : TypeId × Value → H} {P : Program} {w : World}

theorem open_one {u : Ty} {t : TypeId} {v : Value} {d : DataW H} {ps : List MemPlace} {base : Nat} (hu : tyIs P u t) (h : DataW.Trod enc P w 0 (fun _ => true) true t v d ps)
    (hv : Value.okWide P w .any base t v) (hw : (DataW.weights P t d).all (fun n => decide (n ≤ reachBytes)) = true) :
    ∃ x : u.D, RdV (fun b => b < w.heap.size) w u v x ∧ Good u x ∧ Fit u x := by
  obtain ⟨fuel, h⟩ := h
  obtain ⟨x, r1, r2, r3⟩ := (reads (enc := enc) (P := P) (w := w) (sp := fun _ => true) u).1 t hu fuel v.cells.toList d ps h
  refine ⟨x, ?_, r2, r3 hw⟩
  have ha : ∀ (A : Prop), (∃ cs, v = .agg cs ∧ cs.size = P.cellsOf t ∧ A) → ∃ cs, v = .agg cs ∧ Rd (fun b => b < w.heap.size) w u cs.toList x := fun A ⟨cs, e, _⟩ => ⟨cs, e, by subst e; exact r1⟩
  unfold RdV
  cases u with
  | int k => obtain ⟨n, rfl⟩ := okWide_int (show P.underlying t = some (.int k) from hu) hv; exact r1
  | bool => obtain ⟨n, rfl⟩ := okWide_bool (show P.underlying t = some .bool from hu) hv; exact r1
  | str => obtain ⟨n, rfl⟩ := okWide_string (show P.underlying t = some .string from hu) hv; exact r1
  | sl u =>
    obtain ⟨e, he, _⟩ := hu
    obtain ⟨a, l, c, rfl⟩ := okWide_slice he hv; exact r1
  | arr n u =>
    obtain ⟨e, he, _⟩ := hu
    simp only [Value.okWide, he] at hv
    obtain ⟨cs, e1, e2, _⟩ := hv
    exact ha True ⟨cs, e1, e2, trivial⟩
  | pair a b =>
    obtain ⟨e, he, _⟩ := hu
    simp only [Value.okWide, he] at hv
    obtain ⟨cs, e1, e2, _⟩ := hv
    exact ha True ⟨cs, e1, e2, trivial⟩
  | ref p => exact hu.elim
  | err => exact hu.elim
  | mp kk t => exact hu.elim

theorem open_all {base : Nat} : ∀ {us : List Ty} {ts : List TypeId} {vs : List Value} {ds : List (DataW H)} {ps : List MemPlace}, tysAre P us ts → DataW.TrodAll enc P w 0 (fun _ => true) true ts vs ds ps →
    (∀ (j : Nat) t v, ts[j]? = some t → vs[j]? = some v → Value.okWide P w .any base t v) → (DataW.weightsEach P ts ds).all (fun n => decide (n ≤ reachBytes)) = true →
    ∃ x : HL us, RdVs (fun b => b < w.heap.size) w us vs x ∧ GoodL us x ∧ FitL us x
  | [], [], vs, ds, ps, _, h, _, _ => by
    obtain ⟨rfl, rfl, rfl⟩ := trodAll_nil h
    exact ⟨(), trivial, trivial, trivial⟩
  | u :: us, t :: ts, vs, ds, ps, ht, h, hv, hw => by
    obtain ⟨v, vs, d, ds, p, q, rfl, rfl, rfl, h1, h2⟩ := trodAll_cons h
    obtain ⟨w1, w2⟩ := weightsEach_cons hw
    obtain ⟨x, a1, a2, a3⟩ := open_one ht.1 h1 (hv 0 t v rfl rfl) w1
    obtain ⟨y, b1, b2, b3⟩ := open_all ht.2 h2 (fun j t v hj hk => hv (j + 1) t v hj hk) w2
    exact ⟨(x, y), ⟨a1, b1⟩, ⟨a2, b2⟩, ⟨a3, b3⟩⟩
  | [], _ :: _, _, _, _, ht, _, _, _ => ht.elim
  | _ :: _, [], _, _, _, ht, _, _, _ => ht.elim

theorem trodAll_stays (hl : laidOutB P = true) {W W' : World} (hb : Below W.heap.size W W') {sp : Nat → Bool} : ∀ {ts : List TypeId} {vs : List Value} {ds : List (DataW H)} {ps : List MemPlace},
    (∀ t ∈ ts, P.readableRec t = true ∧ t < P.types.size) → DataW.TrodAll enc P W 0 (fun _ => true) true ts vs ds ps → (∀ p ∈ ps, p.block < W.heap.size ∧ sp p.block = true) →
    DataW.TrodAll enc P W' 0 sp true ts vs ds ps
  | [], vs, ds, ps, _, h, _ => by
    obtain ⟨rfl, rfl, rfl⟩ := trodAll_nil h
    rfl
  | t :: ts, vs, ds, ps, ht, h, hp => by
    obtain ⟨v, vs, d, ds, p, q, rfl, rfl, rfl, h1, h2⟩ := trodAll_cons h
    have ht0 := ht t (by simp)
    exact ⟨p, q, Go.WideElems.Trod_stays hl ht0.1 ht0.2 h1 (fun x hx => hb.same (hp x (by simp [hx])).1) (fun x hx => (hp x (by simp [hx])).2),
      trodAll_stays hl hb (fun t h => ht t (by simp [h])) h2 (fun x hx => hp x (by simp [hx])), rfl⟩

theorem law_post {f : Func} {s : ChangeSpec} {apart fresh handsOn again : Bool} {W W' : World} {args : Array Value} {ds gs : List (DataW H)} {before : List MemPlace} {t : TypeId}
    (hl : laidOutB P = true) (hts : ∀ t ∈ f.params.toList, P.readableRec t = true ∧ t < P.types.size) (hvars : s.vars = [])
    (hspec : s.fn H ds = { results := [.lit (.bool true)], args := ds }) (hrt : f.resultTypes = #[t]) (hbt : P.underlying t = some .bool)
    (hW : DataW.Whole enc P f.params.toList s.vars apart W args.toList ds gs before) (hb : Below W.heap.size W W') : s.post enc P f apart fresh handsOn again W args (.bool true) W' := by
  have hlt := hW.lt
  have hW0 := hW
  obtain ⟨p, q, hA, hV, rfl, hz, hn⟩ := hW
  rw [hvars] at hV
  obtain ⟨rfl, rfl⟩ := trodVars_none hV
  simp only [List.append_nil] at *
  have hargs : ∀ sp : Nat → Bool, (∀ x ∈ p, sp x.block = true) → DataW.TrodAll enc P W' 0 sp true f.params.toList args.toList ds p :=
    fun sp hs => trodAll_stays hl hb hts hA (fun x hx => ⟨hlt x hx, hs x hx⟩)
  have hres : ∀ (b : Nat) (sp : Nat → Bool) (hd : Bool), DataW.TrodAll enc P W' b sp hd f.resultTypes.toList ((Value.bool true).resultList f.resultTypes.size) [.lit (.bool true)] [] := fun b sp hd => by
    rw [hrt]; exact trodAll_mk1 (shut_bool hbt true)
  refine ⟨ds, [], p, [], p, [], hW0, ?_, ?_, ?_, Below.frame hb _, fun _ => ⟨?_, .lit (.bool true) :: ds, [], p, ?_, fun x hx _ => hx⟩⟩
  · rw [List.append_nil, hspec]; exact hres _ _ _
  · rw [List.append_nil, hspec]; exact hargs _ (fun x hx => by simpa using hlt x hx)
  · rw [List.append_nil, hspec, hvars]; rfl
  · exact ok_one (v := .bool true) hrt rfl (okWide_bool_mk hbt true)
  · refine ⟨p, [], ?_, ?_, by simp, fun b off hx => ?_, hn⟩
    · have h1 := hres 0 (fun _ => true) true
      have h2 := hargs (fun _ => true) (fun _ _ => rfl)
      rw [hrt] at h1 ⊢
      exact ⟨[], p, shut_bool hbt true, h2, rfl⟩
    · rw [hvars]; rfl
    · have := hb.frozen (p := ⟨b, off, none⟩) (hlt _ hx)
      rw [this]; exact hz b off hx

theorem law_lifted {a : Assume} {C : Checked} {os : Os} {f : FuncId} {fn : Func} {s : ChangeSpec} {conds : List PathCond} {apart fresh handsOn again : Bool} {us : List Ty} {pre : HL us → Prop} {t : TypeId}
    (own : ownKnob C.prog.godebug = none) (started : os.Started) (noInit : C.prog.inits.idxOf? f = none) (hfn : C.prog.funcs[f]? = some fn)
    (hl : laidOutB C.prog = true) (hts : fn.params.toList.all (fun t => C.prog.readableRec t && decide (t < C.prog.types.size)) = true) (htys : tysAre C.prog us fn.params.toList) (hvars : s.vars = [])
    (hspec : ∀ ds : List (DataW H), ds.length = fn.params.toList.length → s.fn H ds = { results := [.lit (.bool true)], args := ds }) (hrt : fn.resultTypes = #[t]) (hbt : C.prog.underlying t = some .bool)
    (hc : CtrOk C.prog f ⟨us, [.bool], pre, fun _ => (true, ()), false⟩) (hpre : ∀ x, GoodL us x → FitL us x → pre x) (hgl : seatGl = [])
    (witness : ∃ (w : World) (tape : Tape) (i : Input), w.os = os ∧ (w.forCall tape i).Shaped C.prog ∧ i.vars = [] ∧ Input.okWide C.prog (w.forCall tape i) .any w.heap.size f i ∧
      s.pre6 enc C.prog fn conds apart (w.forCall tape i).memory i.args ∧ a.holds C.prog (lone (Frame.enter C.prog f i.args .normal) [] (w.forCall tape i))) :
    ReturnsInHanded a C os f .any (s.pre6 enc C.prog fn conds apart) (s.post enc C.prog fn apart fresh handsOn again) := by
  refine returnsInHanded_of_change_sized own started noInit hfn witness ?_
  intro W base args ds gs before hval hW _ hwt _
  have hts' : ∀ t ∈ fn.params.toList, C.prog.readableRec t = true ∧ t < C.prog.types.size := fun t ht => by
    have := List.all_eq_true.1 hts t ht
    simpa using this
  have hW0 := hW
  obtain ⟨p, q, hA, hV, rfl, hz, hn⟩ := hW
  rw [hvars] at hV
  obtain ⟨rfl, rfl⟩ := trodVars_none hV
  have hvt : s.plain.varTypes C.prog = [] := by
    have : s.plain.vars = [] := hvars
    unfold DataSpec.varTypes
    rw [this]; rfl
  rw [hvt, List.append_nil, List.append_nil] at hwt
  have hval' : ∀ (j : Nat) t v, fn.params.toList[j]? = some t → args.toList[j]? = some v → Value.okWide C.prog W .any base t v := fun j t v h1 h2 => hval j t v (by simpa using h1) (by simpa using h2)
  obtain ⟨x, hx, hg, hf⟩ := open_all htys hA hval' hwt
  have hlen : ds.length = fn.params.toList.length := by
    have : ∀ {ts : List TypeId} {vs : List Value} {ds : List (DataW H)} {ps : List MemPlace}, DataW.TrodAll enc C.prog W 0 (fun _ => true) true ts vs ds ps → ds.length = ts.length := by
      intro ts
      induction ts with
      | nil => intro vs ds ps h; obtain ⟨_, rfl, _⟩ := trodAll_nil h; rfl
      | cons t ts ih =>
        intro vs ds ps h
        obtain ⟨v, vs, d, ds, p, q, rfl, rfl, rfl, h1, h2⟩ := trodAll_cons h
        simp [ih h2]
    exact this hA
  refine (hc.2 (fun b => b < W.heap.size) W args x (fun _ h => h) (fun q hq => by rw [hgl] at hq; cases hq) hx (hpre x hg hf)).mono fun e W' he => ?_
  obtain ⟨v, rfl, hres, hbel⟩ := he
  have hv : v = .bool true := by
    have h1 : Rd (fun b => b < W.heap.size ∨ W.heap.size ≤ b ∧ b < W'.heap.size) W' .bool [v] true := hres
    have h2 : [v] = [Value.bool true] := h1
    simpa using h2
  subst hv
  exact ⟨_, rfl, law_post hl hts' hvars (hspec ds hlen) hrt hbt hW0 hbel⟩
end
end Go.Sx
/-
  Sx, part XG: a law's row that lists package-level tables of bytes: what is listed is what the seat's tables are.
-/
namespace Go.Sx
open Go.RowKit Go.WideShapes Go.ChangeShapes

theorem law_laid {H : Type} {enc : TypeId × Value → H} {a : Assume} {C : Checked} {os : Os} {f : FuncId} {fn : Func} {s : ChangeSpec} {conds : List PathCond} {apart fresh handsOn again : Bool} {us : List Ty} {pre : HL us → Prop} {t : TypeId}
    {X : World → Array Value → Prop} (hX : ∀ (w w' : World) (args : Array Value), w.heap = w'.heap → X w args → X w' args)
    (own : ownKnob C.prog.godebug = none) (started : os.Started) (noInit : C.prog.inits.idxOf? f = none) (hfn : C.prog.funcs[f]? = some fn)
    (hl : laidOutB C.prog = true) (hts : fn.params.toList.all (fun t => C.prog.readableRec t && decide (t < C.prog.types.size)) = true) (htys : tysAre C.prog us fn.params.toList) (hvars : s.vars = [])
    (hspec : ∀ ds : List (DataW H), ds.length = fn.params.toList.length → s.fn H ds = { results := [.lit (.bool true)], args := ds }) (hrt : fn.resultTypes = #[t]) (hbt : C.prog.underlying t = some .bool)
    (hc : CtrOk C.prog f ⟨us, [.bool], pre, fun _ => (true, ()), false⟩) (hpre : ∀ x, GoodL us x → FitL us x → pre x) (hgl : ∀ W args, X W args → GlOk W)
    (witness : ∃ (w : World) (tape : Tape) (i : Input), w.os = os ∧ (w.forCall tape i).Shaped C.prog ∧ i.vars = [] ∧ Input.okWide C.prog (w.forCall tape i) .any w.heap.size f i ∧
      ((s.pre enc C.prog fn conds apart (w.forCall tape i).memory i.args ∧ X (w.forCall tape i).memory i.args) ∧ sizedMet enc C.prog fn (OpenSpec.ofChange s) apart (w.forCall tape i).memory i.args) ∧ a.holds C.prog (lone (Frame.enter C.prog f i.args .normal) [] (w.forCall tape i))) :
    ReturnsInHanded a C os f .any (fun w args => (s.pre enc C.prog fn conds apart w args ∧ X w args) ∧ sizedMet enc C.prog fn (OpenSpec.ofChange s) apart w args) (s.post enc C.prog fn apart fresh handsOn again) := by
  refine returnsInHanded_of_change_and hX own started noInit hfn witness ?_
  intro W base args ds gs before hval hW _ hwt hXW _
  have hts' : ∀ t ∈ fn.params.toList, C.prog.readableRec t = true ∧ t < C.prog.types.size := fun t ht => by
    have := List.all_eq_true.1 hts t ht
    simpa using this
  have hW0 := hW
  obtain ⟨p, q, hA, hV, rfl, hz, hn⟩ := hW
  rw [hvars] at hV
  obtain ⟨rfl, rfl⟩ := trodVars_none hV
  have hvt : s.plain.varTypes C.prog = [] := by
    have : s.plain.vars = [] := hvars
    unfold DataSpec.varTypes
    rw [this]; rfl
  rw [hvt, List.append_nil, List.append_nil] at hwt
  have hval' : ∀ (j : Nat) t v, fn.params.toList[j]? = some t → args.toList[j]? = some v → Value.okWide C.prog W .any base t v := fun j t v h1 h2 => hval j t v (by simpa using h1) (by simpa using h2)
  obtain ⟨x, hx, hg, hf⟩ := open_all htys hA hval' hwt
  have hlen : ds.length = fn.params.toList.length := by
    have : ∀ {ts : List TypeId} {vs : List Value} {ds : List (DataW H)} {ps : List MemPlace}, DataW.TrodAll enc C.prog W 0 (fun _ => true) true ts vs ds ps → ds.length = ts.length := by
      intro ts
      induction ts with
      | nil => intro vs ds ps h; obtain ⟨_, rfl, _⟩ := trodAll_nil h; rfl
      | cons t ts ih =>
        intro vs ds ps h
        obtain ⟨v, vs, d, ds, p, q, rfl, rfl, rfl, h1, h2⟩ := trodAll_cons h
        simp [ih h2]
    exact this hA
  refine (hc.2 (fun b => b < W.heap.size) W args x (fun _ h => h) (hgl W args hXW) hx (hpre x hg hf)).mono fun e W' he => ?_
  obtain ⟨v, rfl, hres, hbel⟩ := he
  have hv : v = .bool true := by
    have h1 : Rd (fun b => b < W.heap.size ∨ W.heap.size ≤ b ∧ b < W'.heap.size) W' .bool [v] true := hres
    have h2 : [v] = [Value.bool true] := h1
    simpa using h2
  subst hv
  exact ⟨_, rfl, law_post hl hts' hvars (hspec ds hlen) hrt hbt hW0 hbel⟩
theorem lt_of_cell {W : World} {g j : Nat} {v : Value} (h0 : W.cell? ⟨g, j, none⟩ = some v) : g < W.heap.size := by
  unfold World.cell? at h0
  refine Decidable.byContradiction fun hlt => ?_
  rw [Array.getElem?_eq_none (by show W.heap.size ≤ g; exact Nat.le_of_not_lt hlt)] at h0
  cases h0
theorem glOk_one {P : Program} {W : World} {name : String} {tab : List Nat} {rest : List (String × DataW Unit)} {g : Nat} {t e : TypeId} {n : Nat} (hs : seatGl = [(g, .u8 tab)])
    (hg : P.globalNamed name = some g) (hty : (P.globals[g]?).map (·.type) = some t) (ht : P.underlying t = some (.array n e)) (he : P.underlying e = some (.int .u8)) (hce : P.cellsOf e = 1) (hct : P.cellsOf t = n)
    (hpos : 0 < tab.length) (h : laidMet P ((name, Lib.tabData .u8 (tab.map Int.ofNat)) :: rest) W) : GlOk W := by
  have hT := Lib.tabIs_of_head hg hty ht he hce hct h
  have hcell : ∀ j, j < tab.length → W.cell? ⟨g, j, none⟩ = some (.int .u8 (tab.getD j 0)) := fun j hj => by
    have := hT.cell hg j (by rw [List.length_map]; exact hj)
    rw [this]
    simp [List.getD, hj]
  intro q hq
  rw [hs, List.mem_singleton] at hq
  subst hq
  exact ⟨lt_of_cell (hcell 0 hpos), hcell⟩
theorem gl_u64 {P : Program} {W : World} {name : String} {tab : List Int} {rest : List (String × DataW Unit)} {g : Nat} {t e : TypeId} {n : Nat}
    (hg : P.globalNamed name = some g) (hty : (P.globals[g]?).map (·.type) = some t) (ht : P.underlying t = some (.array n e)) (he : P.underlying e = some (.int .u64)) (hce : P.cellsOf e = 1) (hct : P.cellsOf t = n)
    (hpos : 0 < tab.length) (h : laidMet P ((name, Lib.tabData .u64 tab) :: rest) W) : g < W.heap.size ∧ (Gl.u64 tab).ok W g := by
  have hT := Lib.tabIs_of_head hg hty ht he hce hct h
  have hcell : ∀ j, j < tab.length → W.cell? ⟨g, j, none⟩ = some (.int .u64 (tab.getD j 0)) := fun j hj => hT.cell hg j hj
  refine ⟨lt_of_cell (hcell 0 hpos), ?_⟩
  unfold Lib.TabIs World.var? at hT
  simp only [hg, Option.bind_some] at hT
  cases hb : W.heap[g]? with
  | none => rw [hb] at hT; cases hT
  | some o =>
    rw [hb] at hT
    cases o with
    | cells cs e fz => simp only [Option.some.injEq] at hT; exact ⟨e, fz, by rw [← hT]; exact hb⟩
    | _ => cases hT
theorem gl_err {P : Program} {n nm : String} {text : List UInt8} {r : List (String × DataW Unit)} {W : World} {g : Nat} {ti tp te ts : TypeId} {ms : Array (String × TypeId)} {f : Field}
    (h : laidMet P ((n, .iface nm (.ptr (.agg [.lit (.string text)]))) :: r) W)
    (hg : P.globalNamed n = some g) (ht : (P.globals[g]?).map (·.type) = some ti) (hi : P.underlying ti = some (.interface ms)) (hrow : ∀ u, P.typeName? 3 u = some nm → u = tp)
    (hp : P.underlying tp = some (.pointer te)) (he : P.underlying te = some (.struct #[f])) (hft : f.type = ts) (hfo : f.offset = 0) (hs : P.underlying ts = some .string) (hc : P.cellsOf te = 1) (hcs : P.cellsOf ts = 1) :
    g < W.heap.size ∧ Gl.err.ok W g := by
  obtain ⟨a, s, h1, -, -, -⟩ := laid_sentinel h hg ht hi hrow hp he hft hfo hs hc hcs
  have h2 := World.var?_cell hg h1 0
  exact ⟨lt_of_cell h2, _, _, h2⟩
end Go.Sx
/-
  Sx, part XU: a law's row of the second form (what it reads is of bulk at most a bound), with tables listed.
-/
namespace Go.Sx
open Go.RowKit Go.WideShapes Go.ChangeShapes

theorem law_row {H : Type} {enc : TypeId × Value → H} {a : Assume} {C : Checked} {os : Os} {f : FuncId} {fn : Func} {s : ChangeSpec} {s2 : OpenSpec} {k : (H : Type) → List (DataW H) → Bool} {F : Stop.Interp} {conds : List PathCond} {apart fresh handsOn again : Bool} {laid : List (String × DataW Unit)} {us : List Ty} {pre : HL us → Prop} {t : TypeId}
    (hs2 : s2 = { OpenSpec.ofChange s with cond := some k })
    (own : ownKnob C.prog.godebug = none) (started : os.Started) (noInit : C.prog.inits.idxOf? f = none) (hfn : C.prog.funcs[f]? = some fn)
    (hl : laidOutB C.prog = true) (hts : fn.params.toList.all (fun t => C.prog.readableRec t && decide (t < C.prog.types.size)) = true) (htys : tysAre C.prog us fn.params.toList) (hvars : s.vars = [])
    (hspec : ∀ ds : List (DataW H), ds.length = fn.params.toList.length → s.fn H ds = { results := [.lit (.bool true)], args := ds }) (hrt : fn.resultTypes = #[t]) (hbt : C.prog.underlying t = some .bool)
    (hc : CtrOk C.prog f ⟨us, [.bool], pre, fun _ => (true, ()), false⟩)
    (hpre : ∀ (W : World) (vs : List Value) (x : HL us) (ds : List (DataW H)) (ps : List MemPlace), RdVs (fun b => b < W.heap.size) W us vs x → DataW.TrodAll enc C.prog W 0 (fun _ => true) true fn.params.toList vs ds ps → k H ds = true → GoodL us x → FitL us x → pre x)
    (hgl : ∀ W, laidMetH C.prog laid W → W.ShapedOpen C.prog → GlOk W)
    (witness : ∃ (w : World) (tape : Tape) (i : Input), w.os = os ∧ (w.forCall tape i).Shaped C.prog ∧ i.vars = [] ∧ Input.okWide C.prog (w.forCall tape i) .any w.heap.size f i ∧
      s2.preRow enc C.prog fn conds apart laid (w.forCall tape i).memory i.args ∧ a.holds C.prog (lone (Frame.enter C.prog f i.args .normal) [] (w.forCall tape i))) :
    ReturnsInHanded a C os f .any (s2.preRow enc C.prog fn conds apart laid) ((s2.at F).post enc C.prog fn apart fresh handsOn again) := by
  subst hs2
  refine returnsInHanded_of_row own started noInit hfn witness ?_
  intro W base args ds gs before hval hW' _ hk hwt hL hsh _
  have hW : DataW.Whole enc C.prog fn.params.toList s.vars apart W args.toList ds gs before := hW'
  have hts' : ∀ t ∈ fn.params.toList, C.prog.readableRec t = true ∧ t < C.prog.types.size := fun t ht => by
    have := List.all_eq_true.1 hts t ht
    simpa using this
  have hW0 := hW
  obtain ⟨p, q, hA, hV, rfl, hz, hn⟩ := hW
  rw [hvars] at hV
  obtain ⟨rfl, rfl⟩ := trodVars_none hV
  have hvt : s.plain.varTypes C.prog = [] := by
    have : s.plain.vars = [] := hvars
    unfold DataSpec.varTypes
    rw [this]; rfl
  have hwt' : (DataW.weightsEach C.prog (fn.params.toList ++ s.plain.varTypes C.prog) (ds ++ [])).all (· ≤ reachBytes) = true := hwt
  rw [hvt, List.append_nil, List.append_nil] at hwt'
  have hk' : k H (ds ++ []) = true := hk k rfl
  rw [List.append_nil] at hk'
  have hval' : ∀ (j : Nat) t v, fn.params.toList[j]? = some t → args.toList[j]? = some v → Value.okWide C.prog W .any base t v := fun j t v h1 h2 => hval j t v (by simpa using h1) (by simpa using h2)
  obtain ⟨x, hx, hg, hf⟩ := open_all htys hA hval' hwt'
  have hlen : ds.length = fn.params.toList.length := by
    have : ∀ {ts : List TypeId} {vs : List Value} {ds : List (DataW H)} {ps : List MemPlace}, DataW.TrodAll enc C.prog W 0 (fun _ => true) true ts vs ds ps → ds.length = ts.length := by
      intro ts
      induction ts with
      | nil => intro vs ds ps h; obtain ⟨_, rfl, _⟩ := trodAll_nil h; rfl
      | cons t ts ih =>
        intro vs ds ps h
        obtain ⟨v, vs, d, ds, p, q, rfl, rfl, rfl, h1, h2⟩ := trodAll_cons h
        simp [ih h2]
    exact this hA
  refine (hc.2 (fun b => b < W.heap.size) W args x (fun _ h => h) (hgl W hL hsh) hx (hpre W _ x ds p hx hA hk' hg hf)).mono fun e W' he => ?_
  obtain ⟨v, rfl, hres, hbel⟩ := he
  have hv : v = .bool true := by
    have h1 : Rd (fun b => b < W.heap.size ∨ W.heap.size ≤ b ∧ b < W'.heap.size) W' .bool [v] true := hres
    have h2 : [v] = [Value.bool true] := h1
    simpa using h2
  subst hv
  exact ⟨_, rfl, law_post hl hts' hvars (hspec ds hlen) hrt hbt hW0 hbel⟩
theorem one_len {H : Type} {enc : TypeId × Value → H} {P : Program} {W : World} {S : Nat → Prop} {u : Ty} {t e : TypeId} {vs : List Value} {x : HL [.sl u]} {ds : List (DataW H)} {ps : List MemPlace} (ht : P.underlying t = some (.slice e))
    (hx : RdVs S W [.sl u] vs x) (h : DataW.TrodAll enc P W 0 (fun _ => true) true [t] vs ds ps) : (x.1.length = 0) ∨ ∃ elems spare, ds = [.slice elems spare] ∧ elems.length = x.1.length := by
  obtain ⟨v, vs, d, ds, p, q, rfl, rfl, rfl, h1, h2⟩ := trodAll_cons h
  obtain ⟨rfl, rfl, rfl⟩ := trodAll_nil h2
  have hr : RdV S W (.sl u) v x.1 := hx.1
  have hr' : Rd S W (.sl u) [v] x.1 := hr
  obtain ⟨A, c, h3, _⟩ := hr'
  have hv : v = .slice A x.1.length c := by simpa using h3
  subst hv
  obtain ⟨fuel, h1⟩ := h1
  have h4 : DataW.trod enc P W 0 (fun _ => true) true fuel t [.slice A x.1.length c] = some (d, p) := h1
  rcases DataW.trod_slice ht h4 with ⟨q1, _⟩ | ⟨a, len, cap, elems, rest, n, _, q1, q2, _, _, _, q3, _⟩
  · left
    simp only [List.cons.injEq, Value.slice.injEq] at q1
    exact q1.1.2.1
  · right
    simp only [List.cons.injEq, Value.slice.injEq] at q1
    simp only [Prod.mk.injEq] at q2
    exact ⟨_, _, by rw [q2.1], by rw [List.length_map, q3, ← q1.1.2.1]⟩
end Go.Sx
/-
  Sx, part Z: plain facts on lists that are read by integers.
-/
namespace Go.Sx

theorem getD_lt {α : Type} {xs : List α} {k : Nat} {d : α} (h : k < xs.length) : xs.getD k d = xs[k] := by
  simp [h]
theorem take_succ' {α : Type} {xs : List α} {k : Nat} (d : α) (h : k < xs.length) : xs.take (k + 1) = xs.take k ++ [xs.getD k d] := by
  rw [List.take_add_one, getD_lt h, List.getElem?_eq_getElem h]; rfl
theorem takeI_succ {α : Type} {xs : List α} {k : Int} (d : α) (h0 : 0 ≤ k) (h : k < xs.length) : xs.take (k + 1).toNat = xs.take k.toNat ++ [xs.getD k.toNat d] := by
  rw [show (k + 1).toNat = k.toNat + 1 by omega]
  exact take_succ' d (by omega)
theorem takeI_zero {α : Type} {xs : List α} {k : Int} (h : k ≤ 0) : xs.take k.toNat = [] := by rw [show k.toNat = 0 by omega]; rfl
theorem takeI_all {α : Type} {xs : List α} {k : Int} (h : xs.length ≤ k) : xs.take k.toNat = xs := List.take_of_length_le (by omega)
theorem getD_mem {α : Type} {xs : List α} {k : Nat} {d : α} (h : k < xs.length) : xs.getD k d ∈ xs := by
  rw [getD_lt h]; exact List.getElem_mem h
theorem all_takeI {α : Type} {p : α → Bool} {xs : List α} {k : Int} (d : α) (h0 : 0 ≤ k) (h : k < xs.length) : (xs.take (k + 1).toNat).all p = ((xs.take k.toNat).all p && p (xs.getD k.toNat d)) := by
  rw [takeI_succ d h0 h]; simp
theorem any_takeI {α : Type} {p : α → Bool} {xs : List α} {k : Int} (d : α) (h0 : 0 ≤ k) (h : k < xs.length) : (xs.take (k + 1).toNat).any p = ((xs.take k.toNat).any p || p (xs.getD k.toNat d)) := by
  rw [takeI_succ d h0 h]; simp
theorem foldl_takeI {α β : Type} {f : β → α → β} {b : β} {xs : List α} {k : Int} (d : α) (h0 : 0 ≤ k) (h : k < xs.length) : (xs.take (k + 1).toNat).foldl f b = f ((xs.take k.toNat).foldl f b) (xs.getD k.toNat d) := by
  rw [takeI_succ d h0 h]; simp
theorem all_false_of {α : Type} {p : α → Bool} {xs : List α} {k : Nat} {d : α} (h : k < xs.length) (hp : p (xs.getD k d) = false) : xs.all p = false := by
  rw [List.all_eq_false]
  exact ⟨xs.getD k d, getD_mem h, by rw [hp]; decide⟩
theorem any_true_of {α : Type} {p : α → Bool} {xs : List α} {k : Nat} {d : α} (h : k < xs.length) (hp : p (xs.getD k d) = true) : xs.any p = true := by
  rw [List.any_eq_true]
  exact ⟨xs.getD k d, getD_mem h, hp⟩
theorem ne_of_getD {α : Type} {xs ys : List α} {k : Nat} {d : α} (h : xs.getD k d ≠ ys.getD k d) : xs ≠ ys := fun e => h (by rw [e])
theorem ne_of_length {α : Type} {xs ys : List α} (h : (xs.length : Int) ≠ (ys.length : Int)) : xs ≠ ys := fun e => h (by rw [e])
theorem eq_of_take {α : Type} {xs ys : List α} {k : Int} (hl : (xs.length : Int) = (ys.length : Int)) (hk : (xs.length : Int) ≤ k) (h : xs.take k.toNat = ys.take k.toNat) : xs = ys := by
  rwa [takeI_all hk, takeI_all (by omega)] at h
end Go.Sx
/-
  Small rules for the plain conditions.
-/
namespace Go.Sx
theorem flip_f (b : Bool) : (false = b) = (b = false) := by cases b <;> simp
theorem flip_t (b : Bool) : (true = b) = (b = true) := by cases b <;> simp
theorem natlit_lt (n k : Nat) : ((n : Int) < @OfNat.ofNat Int k instOfNat) = (n < k) := by
  apply propext; exact Int.ofNat_lt
theorem natlit_le (n k : Nat) : ((n : Int) ≤ @OfNat.ofNat Int k instOfNat) = (n ≤ k) := by
  apply propext; exact Int.ofNat_le
theorem lit_lt (n k : Nat) : (@OfNat.ofNat Int k instOfNat < (n : Int)) = (k < n) := by
  apply propext; exact Int.ofNat_lt
theorem lit_le (n k : Nat) : (@OfNat.ofNat Int k instOfNat ≤ (n : Int)) = (k ≤ n) := by
  apply propext; exact Int.ofNat_le
theorem natlit_eq (n k : Nat) : ((n : Int) = @OfNat.ofNat Int k instOfNat) = (n = k) := by
  apply propext; exact Int.ofNat_inj
theorem pair_eta {α β : Type} (p : α × β) : (p.1, p.2) = p := rfl
end Go.Sx
