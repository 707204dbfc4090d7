/-
  slices.Insert keeps its contract: a slice of our own is handed back with one more.
-/
import Derived.Test.YtpmfgdedkmddlaaRunqC
import Derived.Test.YtpmfgdedkmddlaaRunqH0
namespace Go.Proofs.Ytpmfgdedkmddlaa.Runq
open Go.Sx
set_option maxRecDepth 100000
set_option maxHeartbeats 4000000
set_option linter.unusedSimpArgs false
set_option linter.unusedVariables false

open Go Go.Proofs Go.Shelf Go.RowKit
def rho1 (ρ : Nat → Value) (v : Value) : Nat → Value := fun n => if n = 1 then v else ρ n
theorem rowO_done {w0 : Base} {ρ : Nat → Value} {w w' : World} {a : Act} {xs vs ys : List Int} {fr : List SV} {nx : Nat} {v : Value}
    (h : Ok w0 ρ { fr := fr, hp := assoc [(1, .row I64 xs), (2, .row I64 vs)], us := fun n => (assoc [(1, HE.row I64 xs), (2, .row I64 vs)] n).isSome, nx := nx, bk := [] } a w)
    (hb : BelowS w0.old w w') (hold : ∀ b, b < w.heap.size → blkOf (ρ 1) ≠ some b → w'.heap[b]? = w.heap[b]?)
    (hv : ∀ b, blkOf v = some b → blkOf (ρ 1) = some b ∨ (w.heap.size ≤ b ∧ b < w'.heap.size))
    (hrow : (v = .slice none 0 0 ∧ ys = []) ∨ ∃ b o cp cur e, v = .slice (some ⟨b, o, none⟩) ys.length cp ∧ w'.heap[b]? = some (.cells cur e (0, 0)) ∧ ys.length ≤ cp ∧ cp ≤ maxLen ∧ o + cp ≤ cur.size ∧
      ∀ (i : Nat) (y : Int), ys[i]? = some y → cur[o + i]? = some (.int .i64 y) ∧ IR .i64 y) :
    Ok w0 (rho1 ρ v) (hpOf [(1, .row I64 ys), (2, .row I64 vs)]) { tmps := #[], defers := [] } w' := by
  have h12 : ∀ {n : Nat} {he : HE}, (hpOf [(1, .row I64 ys), (2, .row I64 vs)]).hp n = some he → (n = 1 ∧ he = .row I64 ys) ∨ (n = 2 ∧ he = .row I64 vs) := fun {n he} hn => by
    have hn : assoc [(1, HE.row I64 ys), (2, .row I64 vs)] n = some he := hn
    unfold assoc at hn
    cases e : Nat.beq n 1 with
    | true => rw [e] at hn; injection hn with hn; exact .inl ⟨Nat.eq_of_beq_eq_true e, hn.symm⟩
    | false =>
      rw [e] at hn
      simp only [cond_false] at hn
      unfold assoc at hn
      cases e2 : Nat.beq n 2 with
      | true => rw [e2] at hn; injection hn with hn; exact .inr ⟨Nat.eq_of_beq_eq_true e2, hn.symm⟩
      | false => rw [e2] at hn; cases hn
  have b1 : ∀ b, blkOf (ρ 1) = some b → ¬ w0.old b ∧ b < w.heap.size := fun b hb => h.fresh 1 (.row I64 xs) b rfl hb
  have b2 : ∀ b, blkOf (ρ 2) = some b → ¬ w0.old b ∧ b < w.heap.size := fun b hb => h.fresh 2 (.row I64 vs) b rfl hb
  have b12 : ∀ b, blkOf (ρ 1) = some b → blkOf (ρ 2) ≠ some b := fun b h1 h2 => h.apart 1 2 (.row I64 xs) (.row I64 vs) b (by decide) rfl rfl h1 h2
  have hv2 : ∀ b, blkOf v = some b → ¬ w0.old b ∧ b < w'.heap.size := fun b e => by
    rcases hv b e with h1 | ⟨h1, h2⟩
    · exact ⟨(b1 b h1).1, Nat.lt_of_lt_of_le (b1 b h1).2 hb.size⟩
    · exact ⟨fun ho => Nat.lt_irrefl _ (Nat.lt_of_lt_of_le (h.oldlt ho) h1), h2⟩
  have hv12 : ∀ b, blkOf v = some b → blkOf (ρ 2) ≠ some b := fun b e e2 => by
    rcases hv b e with h1 | ⟨h1, h2⟩
    · exact b12 b h1 e2
    · have := (b2 b e2).2
      omega
  have r1 : rho1 ρ v 1 = v := rfl
  have r2 : rho1 ρ v 2 = ρ 2 := rfl
  refine { defers := rfl, below := h.below.trans hb, len := rfl, frame := fun i => trivial, back := fun i => trivial, heap := fun n he hn => ?_, used := fun n he hn => ?_, fresh := fun n he b hn hB => ?_, apart := fun n n' he he' b hne hn hn' hB => ?_ }
  · rcases h12 hn with ⟨rfl, rfl⟩ | ⟨rfl, rfl⟩
    · rcases hrow with ⟨e1, e2⟩ | ⟨b, o, cp, cur, e, g1, g2, g3, g4, g5, g6⟩
      · exact .inl ⟨e1, e2⟩
      · refine .inr ⟨b, o, cp, cur, e, g1, g2, g3, g4, by show o + cp * 1 ≤ cur.size; omega, fun i y hy => ?_⟩
        obtain ⟨q1, q2⟩ := g6 i y hy
        refine ⟨?_, q2⟩
        have hlt := (Array.getElem?_eq_some_iff.1 q1).1
        apply List.ext_getElem?
        intro k
        rw [List.getElem?_take, List.getElem?_drop]
        rcases k with _ | k
        · rw [if_pos (by decide), Array.getElem?_toList]
          show cur[o + i * 1 + 0]? = _
          rw [show o + i * 1 + 0 = o + i by omega, q1]; rfl
        · rw [if_neg (by show ¬ (k + 1 < 1); omega)]; rfl
    · rcases h.heap 2 (.row I64 vs) rfl with ⟨e1, e2⟩ | ⟨b, o, cp, cur, e, g1, g2, g3, g4, g5, g6⟩
      · exact .inl ⟨e1, e2⟩
      · have g1 : ρ 2 = .slice (some ⟨b, o, none⟩) vs.length cp := g1
        have g2 : w.heap[b]? = some (.cells cur e (0, 0)) := g2
        have hblt : b < w.heap.size := (Array.getElem?_eq_some_iff.1 g2).1
        exact .inr ⟨b, o, cp, cur, e, g1, (hold b hblt (fun e1 => b12 b e1 (by rw [g1]; rfl))).trans g2, g3, g4, g5, fun i x hx => g6 i x hx⟩
  · rcases h12 hn with ⟨rfl, rfl⟩ | ⟨rfl, rfl⟩
    · rfl
    · rfl
  · rcases h12 hn with ⟨rfl, rfl⟩ | ⟨rfl, rfl⟩
    · exact hv2 b hB
    · have := b2 b hB
      exact ⟨this.1, Nat.lt_of_lt_of_le this.2 hb.size⟩
  · rcases h12 hn with ⟨rfl, rfl⟩ | ⟨rfl, rfl⟩
    · rcases h12 hn' with ⟨rfl, rfl⟩ | ⟨rfl, rfl⟩
      · exact absurd rfl hne
      · exact hv12 b hB
    · rcases h12 hn' with ⟨rfl, rfl⟩ | ⟨rfl, rfl⟩
      · exact fun hB' => hv12 b hB' hB
      · exact absurd rfl hne
def setL (cur : Array Value) (o : Nat) : List Value → Array Value
  | [] => cur
  | v :: r => setL (cur.setIfInBounds o v) (o + 1) r
theorem setL_size : ∀ (vs : List Value) (cur : Array Value) (o : Nat), (setL cur o vs).size = cur.size
  | [], _, _ => rfl
  | v :: r, cur, o => by
    unfold setL
    rw [setL_size r]; simp
theorem setL_get : ∀ (vs : List Value) (cur : Array Value) (o j : Nat), o + vs.length ≤ cur.size → (setL cur o vs)[j]? = if o ≤ j ∧ j < o + vs.length then vs[j - o]? else cur[j]?
  | [], cur, o, j, _ => by
    unfold setL
    rw [if_neg (by rw [List.length_nil]; omega)]
  | v :: r, cur, o, j, h => by
    unfold setL
    rw [List.length_cons] at h
    rw [setL_get r _ _ _ (by simp; omega), Array.getElem?_setIfInBounds]
    by_cases h1 : o = j
    · subst h1
      rw [if_neg (by omega), if_pos rfl, if_pos (by omega), if_pos (by simp)]
      try simp
    · by_cases h2 : o + 1 ≤ j ∧ j < o + 1 + r.length
      · rw [if_pos h2, if_pos (by simp; omega)]
        rw [show j - o = (j - (o + 1)) + 1 by omega, List.getElem?_cons_succ]
      · rw [if_neg h2, if_neg h1, if_neg (by simp; omega)]
theorem heap_setL (b : Nat) (e : TypeId) : ∀ (vs : List Value) (o : Nat) (cur : Array Value) (w : World), w.heap[b]? = some (.cells cur e (0, 0)) → (w.setCells b o vs).heap[b]? = some (.cells (setL cur o vs) e (0, 0))
  | [], o, cur, w, h => h
  | v :: r, o, cur, w, h => by
    show ((w.setCell ⟨b, o, none⟩ v).setCells b (o + 1) r).heap[b]? = _
    refine heap_setL b e r (o + 1) (cur.setIfInBounds o v) _ ?_
    unfold World.setCell
    simp [Array.getElem?_modify, h]
def encI (l : List Int) : List Value := l.map (.int .i64)
theorem encI_one {l : List Int} : ∀ v ∈ encI l, v.oneCell' = true := fun v hv => by
  obtain ⟨x, _, rfl⟩ := List.mem_map.1 hv
  rfl
theorem encI_get {l : List Int} {j : Nat} {v : Value} (h : (encI l)[j]? = some v) : ∃ x, l[j]? = some x ∧ v = .int .i64 x := by
  unfold encI at h
  rw [List.getElem?_map] at h
  obtain ⟨x, h1, h2⟩ := Option.map_eq_some_iff.1 h
  exact ⟨x, h1, h2.symm⟩
theorem rowI_get {S : Nat → Prop} {w : World} {cur : Array Value} {o : Nat} {xs : List Int} (h : ∀ (i : Nat) (x : Int), xs[i]? = some x → Rd S w I64 ((cur.toList.drop (o + i * 1)).take 1) x) (i : Nat) (x : Int) (hi : xs[i]? = some x) :
    cur[o + i]? = some (.int .i64 x) ∧ IR .i64 x := by
  obtain ⟨h2, h3⟩ : (cur.toList.drop (o + i * 1)).take 1 = [Value.int .i64 x] ∧ IR .i64 x := h i x hi
  refine ⟨?_, h3⟩
  have h4 : ((cur.toList.drop (o + i * 1)).take 1)[0]? = some (.int .i64 x) := by rw [h2]; rfl
  rw [List.getElem?_take, if_pos (by omega), List.getElem?_drop] at h4
  simpa using h4
theorem ins_args {w0 : Base} {ρ : Nat → Value} {w : World} {vs : Array Value} {xs ys : List Int} {i : Int} {nx : Nat}
    (h : Ok w0 ρ { fr := [.one (.row 1), .one (.d I64 i), .one (.row 2)], hp := assoc [(1, .row I64 xs), (2, .row I64 ys)], us := fun n => (assoc [(1, HE.row I64 xs), (2, .row I64 ys)] n).isSome, nx := nx, bk := [] } { tmps := vs, defers := [] } w) :
    vs = #[ρ 1, .int .i64 i, ρ 2] ∧ IR .i64 i := by
  have hl : vs.size = 3 := h.len.symm
  have h1 := (List.cons.inj (SVc.one1 (p := .row 1) rfl (by simp) (h.frame 0)).2.1).1
  have h2 : [vs.getD 1 undef] = [Value.int .i64 i] ∧ IR .i64 i := SVc.one1 (p := .d I64 i) rfl (by simp) (h.frame 1)
  have h3 := (List.cons.inj (SVc.one1 (p := .row 2) rfl (by simp) (h.frame 2)).2.1).1
  obtain ⟨l⟩ := vs
  match l, hl with
  | [v, v', v''], _ =>
    have e1 : v = ρ 1 := h1
    have e2 : v' = .int .i64 i := (List.cons.inj h2.1).1
    have e3 : v'' = ρ 2 := h3
    rw [e1, e2, e3]
    exact ⟨rfl, h2.2⟩

end Go.Proofs.Ytpmfgdedkmddlaa.Runq
