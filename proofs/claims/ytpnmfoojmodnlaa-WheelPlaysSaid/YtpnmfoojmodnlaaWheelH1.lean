/-
  slices.Sort keeps its contract: a slice of our own is sorted behind it.
-/
import Derived.Test.YtpnmfoojmodnlaaWheelC
import Derived.Test.YtpnmfoojmodnlaaWheelH0
namespace Go.Proofs.Ytpnmfoojmodnlaa.Wheel
open Go.Sx
set_option maxRecDepth 100000
set_option maxHeartbeats 4000000
set_option linter.unusedSimpArgs false
set_option linter.unusedVariables false

open Go Go.Proofs Go.Shelf Go.Sort Go.RowKit
/- The one slice that is given. -/
theorem one_row {w0 : Base} {ρ : Nat → Value} {w : World} {vs : Array Value} {u : Ty} {xs : List u.D} {nx : Nat}
    (h : Ok w0 ρ { fr := [.one (.row 1)], hp := assoc [(1, .row u xs)], us := fun n => (assoc [(1, HE.row u xs)] n).isSome, nx := nx, bk := [] } { tmps := vs, defers := [] } w) : vs = #[ρ 1] := by
  have hl : vs.size = 1 := h.len.symm
  have h1 := SVc.one1 (p := .row 1) rfl (by simp) (h.frame 0)
  have h2 := (List.cons.inj h1.2.1).1
  obtain ⟨l⟩ := vs
  match l, hl with
  | [v], _ =>
    have h3 : v = ρ 1 := h2
    rw [h3]
/- The given slice's memory is written, and new blocks are laid. -/
theorem row_done {w0 : Base} {ρ : Nat → Value} {w w' : World} {a : Act} {u : Ty} {xs ys : List u.D} {fr : List SV} {nx : Nat}
    (h : Ok w0 ρ { fr := fr, hp := assoc [(1, .row u xs)], us := fun n => (assoc [(1, HE.row u xs)] n).isSome, nx := nx, bk := [] } a w)
    (hb : BelowS w0.old w w') (hold : ∀ b, b < w.heap.size → blkOf (ρ 1) ≠ some b → w'.heap[b]? = w.heap[b]?)
    (hhe : ∀ c' : Cx, (cx w0 ρ { fr := fr, hp := assoc [(1, .row u xs)], us := fun n => (assoc [(1, HE.row u xs)] n).isSome, nx := nx, bk := [] } w).le c' → c'.w = w' → c'.ρ = ρ → HEc c' 1 (.row u ys)) :
    Ok w0 ρ (hpOf [(1, .row u ys)]) { tmps := #[], defers := [] } w' := by
  have hB : ∀ b, Bk (.row u ys) (ρ 1) b → Bk (.row u xs) (ρ 1) b ∨ (w.heap.size ≤ b ∧ b < w'.heap.size) := fun b hb => .inl hb
  have hle := upd_le (he := .row u ys) (w' := w') h (k := 1) rfl hB hb.size (fun b h1 h2 => hold b h1 h2)
  have hok := h.upd (he := .row u ys) (k := 1) rfl hB hb (fun b h1 h2 => hold b h1 h2) (hhe _ hle rfl rfl)
  have hhp : (St.upd { fr := fr, hp := assoc [(1, .row u xs)], us := fun n => (assoc [(1, HE.row u xs)] n).isSome, nx := nx, bk := [] } 1 (.row u ys)).hp = assoc [(1, .row u ys)] := by
    funext n
    show hset _ 1 _ n = _
    by_cases e : n = 1
    · subst e; rfl
    · rw [hset_other _ _ e]
      have e2 : Nat.beq n 1 = false := by
        cases h : Nat.beq n 1
        · rfl
        · exact absurd (Nat.eq_of_beq_eq_true h) e
      simp [assoc, e2]
  have hus : (St.upd { fr := fr, hp := assoc [(1, .row u xs)], us := fun n => (assoc [(1, HE.row u xs)] n).isSome, nx := nx, bk := [] } 1 (.row u ys)).us = fun n => (assoc [(1, HE.row u ys)] n).isSome := by
    funext n
    show (assoc [(1, HE.row u xs)] n).isSome = _
    by_cases e : n = 1
    · subst e; rfl
    · have e2 : Nat.beq n 1 = false := by
        cases h : Nat.beq n 1
        · rfl
        · exact absurd (Nat.eq_of_beq_eq_true h) e
      simp [assoc, e2]
  generalize St.upd { fr := fr, hp := assoc [(1, .row u xs)], us := fun n => (assoc [(1, HE.row u xs)] n).isSome, nx := nx, bk := [] } 1 (.row u ys) = s2 at hok hhp hus
  obtain ⟨fr2, hp2, us2, nx2, bk2⟩ := s2
  simp only [] at hhp hus
  subst hhp; subst hus
  exact { defers := rfl, below := hok.below, len := rfl, frame := fun i => trivial, back := fun i => trivial, heap := hok.heap, used := hok.used, fresh := hok.fresh, apart := hok.apart }
/- A row of cells that hold numbers. -/
theorem row_cell {S : Nat → Prop} {w : World} {cur : Array Value} {o : Nat} {xs : List Int} (h : ∀ (i : Nat) (x : Int), xs[i]? = some x → Rd S w I64 ((cur.toList.drop (o + i * 1)).take 1) x) {i : Nat} (hi : i < xs.length) :
    cur[o + i]? = some (.int .i64 (xs[i]?.getD 0)) ∧ IR .i64 (xs[i]?.getD 0) := by
  have h1 := h i (xs[i]?.getD 0) (by simp [hi])
  obtain ⟨h2, h3⟩ : (cur.toList.drop (o + i * 1)).take 1 = [Value.int .i64 (xs[i]?.getD 0)] ∧ IR .i64 (xs[i]?.getD 0) := h1
  refine ⟨?_, h3⟩
  have h4 : ((cur.toList.drop (o + i * 1)).take 1)[0]? = some (.int .i64 (xs[i]?.getD 0)) := by rw [h2]; rfl
  rw [List.getElem?_take, if_pos (by omega), List.getElem?_drop] at h4
  simpa using h4
theorem holds_row {S : Nat → Prop} {w : World} {cur : Array Value} {b o : Nat} {e : TypeId} {xs : List Int} (hb : w.heap[b]? = some (.cells cur e (0, 0))) (h : ∀ (i : Nat) (x : Int), xs[i]? = some x → Rd S w I64 ((cur.toList.drop (o + i * 1)).take 1) x) :
    Holds (Value.int .i64) w b o xs.toArray := by
  intro j hj
  have hj : j < xs.length := by simpa using hj
  have hc := (row_cell h hj).1
  have e1 : xs.toArray[j]! = xs[j]?.getD 0 := by simp [hj]
  rw [e1]
  refine ⟨?_, ?_⟩
  · simp [World.cell?, hb, hc]
  · simp [World.frozen?, hb]
theorem row_sorted {S : Nat → Prop} {w : World} {cur : Array Value} {o : Nat} {ys : List Int} (hfit : o + ys.length ≤ cur.size) (hr : ∀ y ∈ ys, IR .i64 y) (i : Nat) (y : Int) (h : ys[i]? = some y) :
    Rd S w I64 (((putCells (Value.int .i64) o ys.toArray cur).toList.drop (o + i * 1)).take 1) y := by
  have hi : i < ys.length := (List.getElem?_eq_some_iff.1 h).1
  have hm : y ∈ ys := List.mem_iff_getElem?.2 ⟨i, h⟩
  show _ = [Value.int .i64 y] ∧ IR .i64 y
  refine ⟨?_, hr y hm⟩
  apply List.ext_getElem?
  intro k
  rw [List.getElem?_take, List.getElem?_drop]
  rcases k with _ | k
  · rw [if_pos (by omega), Array.getElem?_toList]
    unfold putCells
    rw [Array.getElem?_mapIdx, Array.getElem?_eq_getElem (by omega)]
    simp only [Option.map_some]
    rw [if_pos (by simp; omega)]
    have e1 : o + i * 1 + 0 - o = i := by omega
    rw [e1]
    have e2 : ys.toArray[i]! = y := by
      have := (List.getElem?_eq_some_iff.1 h).2
      simp [hi, this]
    rw [e2]; rfl
  · rw [if_neg (by omega)]; rfl
theorem sortI_perm {l : List Int} : (sortI l).Perm l := List.mergeSort_perm _ _
theorem c_sort : PrcOk Try.prog 41 pSort := by
  refine ⟨⟨Try.f41, Try.func41, by kernel_rfl, by kernel_rfl⟩, ?_⟩
  intro w0 ρ w vs x h hp _
  obtain ⟨xs, u⟩ := x
  have h : Sx.Ok w0 ρ { fr := [.one (.row 1)], hp := assoc [(1, .row I64 xs)], us := fun n => (assoc [(1, HE.row I64 xs)] n).isSome, nx := 2, bk := [] } { tmps := vs, defers := [] } w := h
  have hv := one_row h
  subst hv
  have hp : xs.length ≤ 400 := hp
  rcases h.heap 1 (.row I64 xs) rfl with ⟨e, rfl⟩ | ⟨b, o, cp, cur, e, h1, h2, h3, h4, h5, h6⟩
  · have e : ρ 1 = .slice none 0 0 := e
    rw [e]
    refine (Any.slices_Sort_int_none sortA none 0 w).mono fun r w' hr => ?_
    obtain ⟨rfl, rfl⟩ := hr
    refine ⟨_, ρ, rfl, fun _ _ => rfl, ?_, ⟨_, rfl, trivial⟩⟩
    exact row_done h (BelowS.refl _ _) (fun _ _ _ => rfl) (fun c' _ _ e2 => .inl ⟨by rw [e2]; exact e, by show sortI [] = []; simp [sortI]⟩)
  · have h1 : ρ 1 = .slice (some ⟨b, o, none⟩) xs.length cp := h1
    have h2 : w.heap[b]? = some (.cells cur e (0, 0)) := h2
    have hblt : b < w.heap.size := (Array.getElem?_eq_some_iff.1 h2).1
    have h5 : o + cp * 1 ≤ cur.size := h5
    have hnold := (h.fresh 1 _ b rfl (by show blkOf (ρ 1) = some b; rw [h1]; rfl)).1
    rw [h1]
    refine (Any.slices_Sort_int sortA b o cp xs w (holds_row h2 h6) hblt (by omega)).mono fun r w' hr => ?_
    obtain ⟨rfl, n, os, rfl⟩ := hr
    have hys : (xs.mergeSort fun x y => decide (x ≤ y)) = sortI xs := rfl
    rw [hys]
    have hother : ∀ b', b' < w.heap.size → b' ≠ b → (grow (putRow (Value.int .i64) (Sort.ahead w n) b o (sortI xs).toArray) os).heap[b']? = w.heap[b']? := fun b' hb' hne => by
      rw [heap_grow_old _ _ (by simpa using hb')]
      unfold putRow mapBlock
      simp only [heap_ahead, Array.getElem?_modify]
      rw [if_neg (fun e => hne e.symm)]
    have hat : (grow (putRow (Value.int .i64) (Sort.ahead w n) b o (sortI xs).toArray) os).heap[b]? = some (.cells (putCells (Value.int .i64) o (sortI xs).toArray cur) e (0, 0)) := by
      rw [heap_grow_old _ _ (by simpa using hblt)]
      unfold putRow mapBlock
      simp only [heap_ahead, Array.getElem?_modify, if_true, h2, Option.map_some, onCells]
    have hpl : (sortI xs).length = xs.length := sortI_perm.length_eq
    refine ⟨_, ρ, rfl, fun _ _ => rfl, ?_, ⟨_, rfl, trivial⟩⟩
    show Sx.Ok w0 ρ (hpOf [(1, .row I64 (sortI xs))]) { tmps := #[], defers := [] } _
    refine row_done h ⟨rfl, rfl, rfl, by simp, fun k hk => hother k (h.oldlt hk) (fun e => hnold (e ▸ hk))⟩ (fun b' hb' hne => hother b' hb' (fun e => hne (by rw [h1, e]; rfl))) ?_
    intro c' _ e1 e2
    refine .inr ⟨b, o, cp, _, e, by rw [e2, h1, hpl], by rw [e1]; exact hat, by rw [hpl]; exact h3, h4, ?_, ?_⟩
    · show o + cp * 1 ≤ (putCells (Value.int .i64) o (sortI xs).toArray cur).size
      unfold putCells
      rw [Array.size_mapIdx]; exact h5
    · intro i y hy
      exact row_sorted (by omega) (fun z hz => by
        obtain ⟨j, hj, rfl⟩ := List.mem_iff_getElem.1 (sortI_perm.mem_iff.1 hz)
        have := (row_cell h6 hj).2
        simpa [hj] using this) i y hy

end Go.Proofs.Ytpnmfoojmodnlaa.Wheel
