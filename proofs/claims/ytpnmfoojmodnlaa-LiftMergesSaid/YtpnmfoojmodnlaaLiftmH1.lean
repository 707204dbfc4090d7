/-
  slices.SortFunc of spans keeps its contract: a slice of our own is sorted behind it.
-/
import Derived.Test.YtpnmfoojmodnlaaLiftmC
import Derived.Test.YtpnmfoojmodnlaaLiftmH0
import Derived.Lib.Strings
import Derived.Lib.Slices
import Derived.Lib.Small
import Derived.Lib.Walk
import Derived.Lib.BitFns
namespace Go.Proofs.Ytpnmfoojmodnlaa.Liftm
open Go.Sx
set_option maxRecDepth 100000
set_option maxHeartbeats 4000000
set_option linter.unusedSimpArgs false
set_option linter.unusedVariables false

open Go Go.Proofs Go.Shelf Go.Sort Go.RowKit
/- The given slice's memory is written, and new blocks are laid. -/
theorem row_done {w0 : Base} {ρ : Nat → Value} {w w' : World} {a : Act} {u : Ty} {xs ys : List u.D} {fr : List SV} {nx : Nat}
    (h : Ok w0 ρ { fr := fr, hp := assoc [(1, .row u xs)], us := fun n => (assoc [(1, HE.row u xs)] n).isSome, nx := nx, bk := [] } a w)
    (hb : BelowS w0.old w w') (hold : ∀ b, b < w.heap.size → blkOf (ρ 1) ≠ some b → w'.heap[b]? = w.heap[b]?)
    (hhe : ∀ c' : Cx, (cx w0 ρ { fr := fr, hp := assoc [(1, .row u xs)], us := fun n => (assoc [(1, HE.row u xs)] n).isSome, nx := nx, bk := [] } w).le c' → c'.w = w' → c'.ρ = ρ → HEc c' 1 (.row u ys)) :
    Ok w0 ρ (hpOf [(1, .row u ys)]) { tmps := #[], defers := [] } w' := by
  have hB : ∀ b, Bk (.row u ys) (ρ 1) b → Bk (.row u xs) (ρ 1) b ∨ (w.heap.size ≤ b ∧ b < w'.heap.size) := fun b hb => .inl hb
  have hle := upd_le (he := .row u ys) (w' := w') h (k := 1) rfl hB hb.size (fun b h1 h2 => hold b h1 h2)
  have hok := h.upd (he := .row u ys) (k := 1) rfl hB hb (fun b h1 h2 => hold b h1 h2) (hhe _ hle rfl rfl)
  have hhp : (St.upd { fr := fr, hp := assoc [(1, .row u xs)], us := fun n => (assoc [(1, HE.row u xs)] n).isSome, nx := nx, bk := [] } 1 (.row u ys)).hp = assoc [(1, .row u ys)] := by
    funext n
    show hset _ 1 _ n = _
    by_cases e : n = 1
    · subst e; rfl
    · rw [hset_other _ _ e]
      have e2 : Nat.beq n 1 = false := by
        cases h : Nat.beq n 1
        · rfl
        · exact absurd (Nat.eq_of_beq_eq_true h) e
      simp [assoc, e2]
  have hus : (St.upd { fr := fr, hp := assoc [(1, .row u xs)], us := fun n => (assoc [(1, HE.row u xs)] n).isSome, nx := nx, bk := [] } 1 (.row u ys)).us = fun n => (assoc [(1, HE.row u ys)] n).isSome := by
    funext n
    show (assoc [(1, HE.row u xs)] n).isSome = _
    by_cases e : n = 1
    · subst e; rfl
    · have e2 : Nat.beq n 1 = false := by
        cases h : Nat.beq n 1
        · rfl
        · exact absurd (Nat.eq_of_beq_eq_true h) e
      simp [assoc, e2]
  generalize St.upd { fr := fr, hp := assoc [(1, .row u xs)], us := fun n => (assoc [(1, HE.row u xs)] n).isSome, nx := nx, bk := [] } 1 (.row u ys) = s2 at hok hhp hus
  obtain ⟨fr2, hp2, us2, nx2, bk2⟩ := s2
  simp only [] at hhp hus
  subst hhp; subst hus
  exact { defers := rfl, below := hok.below, len := rfl, frame := fun i => trivial, back := fun i => trivial, heap := hok.heap, used := hok.used, fresh := hok.fresh, apart := hok.apart }
def enc2 (x : SpO) : List Value := [.int .i64 x.1.1, .int .i64 x.1.2]
theorem wrS (x y : SpO) : IntKind.i64.wrap (x.1.1 - y.1.1) = cfS x y := by
  have hx := okS_iff.1 x.2
  have hy := okS_iff.1 y.2
  exact wrap_in (k := .i64) ⟨by omega, by omega⟩
theorem cmpA (x y : SpO) (W : World) : Calls Try.prog 33 #[.agg #[.int .i64 x.1.1, .int .i64 x.1.2], .agg #[.int .i64 y.1.1, .int .i64 y.1.2]] W fun e w' => e = .returned (.int .i64 (cfS x y)) ∧ ∃ q os', w' = grow (W.drewN q) os' := by
  have hw := wrS x y
  go_enter Try.func33, Try.ntmps33
  go_wp2
  go_ret
  exact ⟨rfl, 0, _, by rw [alloc_eq_grow, alloc_eq_grow, grow_grow]; rfl⟩
theorem cmpB (x y : SpO) (W : World) : Calls Try.prog 31 #[.agg #[.int .i64 x.1.1, .int .i64 x.1.2], .agg #[.int .i64 y.1.1, .int .i64 y.1.2]] W fun e w' => e = .returned (.int .i64 (cfS x y)) ∧ ∃ q os', w' = grow (W.drewN q) os' := by
  have hw := wrS x y
  go_enter Try.func31, Try.ntmps31
  go_wp2
  go_ret
  exact ⟨rfl, 0, _, by rw [alloc_eq_grow, alloc_eq_grow, grow_grow]; rfl⟩
/- A row of cells that hold pairs of numbers. -/
theorem pair_cell {S : Nat → Prop} {w : World} {cur : Array Value} {o : Nat} {xs : List Sp} (h : ∀ (i : Nat) (x : Sp), xs[i]? = some x → Rd S w tySpan ((cur.toList.drop (o + i * 2)).take 2) x) {i : Nat} {x : Sp} (hi : xs[i]? = some x) :
    cur[o + i * 2]? = some (.int .i64 x.1) ∧ cur[o + i * 2 + 1]? = some (.int .i64 x.2) ∧ IR .i64 x.1 ∧ IR .i64 x.2 := by
  obtain ⟨l, m, h2, ⟨rfl, h3⟩, ⟨rfl, h4⟩⟩ := h i x hi
  refine ⟨?_, ?_, h3, h4⟩
  · have h5 : ((cur.toList.drop (o + i * 2)).take 2)[0]? = some (.int .i64 x.1) := by rw [h2]; rfl
    rw [List.getElem?_take, if_pos (by omega), List.getElem?_drop] at h5
    simpa using h5
  · have h5 : ((cur.toList.drop (o + i * 2)).take 2)[1]? = some (.int .i64 x.2) := by rw [h2]; rfl
    rw [List.getElem?_take, if_pos (by omega), List.getElem?_drop] at h5
    simpa using h5
theorem flat_get (d : Array SpO) {i : Nat} (h : i < d.size) (x : SpO) (hx : d[i]? = some x) : (flatK enc2 2 d)[i * 2]! = .int .i64 x.1.1 ∧ (flatK enc2 2 d)[i * 2 + 1]! = .int .i64 x.1.2 := by
  have e : d[i]! = x := by
    rw [getElem!_pos d i h]
    exact (Array.getElem?_eq_some_iff.1 hx).2
  rw [get_flatK _ _ _ _ (by omega), get_flatK _ _ _ _ (by omega), show i * 2 / 2 = i by omega, show i * 2 % 2 = 0 by omega, show (i * 2 + 1) / 2 = i by omega, show (i * 2 + 1) % 2 = 1 by omega, e]
  exact ⟨rfl, rfl⟩
theorem holds_pairs {S : Nat → Prop} {w : World} {cur : Array Value} {b o : Nat} {e : TypeId} {xs : List Sp} {d : Array SpO} (hd : d.toList.map Subtype.val = xs) (hb : w.heap[b]? = some (.cells cur e (0, 0)))
    (h : ∀ (i : Nat) (x : Sp), xs[i]? = some x → Rd S w tySpan ((cur.toList.drop (o + i * 2)).take 2) x) : HoldsK enc2 2 w b o d := by
  intro j hj
  rw [size_flatK] at hj
  have hi : j / 2 < d.size := by omega
  have hx : d[j / 2]? = some d[j / 2] := by simp [hi]
  have hx2 : xs[j / 2]? = some d[j / 2].1 := by rw [← hd]; simp [hi]
  obtain ⟨c1, c2, _, _⟩ := pair_cell h hx2
  obtain ⟨f1, f2⟩ := flat_get d hi _ hx
  refine ⟨?_, by simp [World.frozen?, hb]⟩
  simp only [id]
  rcases Nat.mod_two_eq_zero_or_one j with hm | hm
  · rw [show j = j / 2 * 2 by omega, f1]
    simp [World.cell?, hb, c1]
  · rw [show j = j / 2 * 2 + 1 by omega, f2, ← Nat.add_assoc]
    simp [World.cell?, hb, c2]
theorem put_get {F : Array Value} {cur : Array Value} {o j : Nat} (h : j < F.size) (hc : o + j < cur.size) : (putCells id o F cur)[o + j]? = some F[j]! := by
  unfold putCells
  rw [Array.getElem?_mapIdx, Array.getElem?_eq_getElem hc]
  simp only [Option.map_some]
  rw [if_pos (by omega), show o + j - o = j by omega]
  rfl
theorem pairs_sorted {S : Nat → Prop} {w : World} {cur : Array Value} {o : Nat} {d : Array SpO} (hfit : o + d.size * 2 ≤ cur.size) (hr : ∀ y ∈ d.toList, IR .i64 y.1.1 ∧ IR .i64 y.1.2) (i : Nat) (y : Sp) (h : (d.toList.map Subtype.val)[i]? = some y) :
    Rd S w tySpan (((putCells id o (flatK enc2 2 d) cur).toList.drop (o + i * 2)).take 2) y := by
  rw [List.getElem?_map] at h
  obtain ⟨q, hq, rfl⟩ := Option.map_eq_some_iff.1 h
  have hi : i < d.size := by
    have := (List.getElem?_eq_some_iff.1 hq).1
    simpa using this
  have hx : d[i]? = some q := by simpa using hq
  obtain ⟨f1, f2⟩ := flat_get d hi q hx
  obtain ⟨r1, r2⟩ := hr q (List.mem_iff_getElem?.2 ⟨i, hq⟩)
  have g1 := put_get (F := flatK enc2 2 d) (cur := cur) (o := o) (j := i * 2) (by rw [size_flatK]; omega) (by omega)
  have g2 := put_get (F := flatK enc2 2 d) (cur := cur) (o := o) (j := i * 2 + 1) (by rw [size_flatK]; omega) (by omega)
  rw [f1] at g1
  rw [f2] at g2
  refine ⟨[.int .i64 q.1.1], [.int .i64 q.1.2], ?_, ⟨rfl, r1⟩, ⟨rfl, r2⟩⟩
  apply List.ext_getElem?
  intro k
  rw [List.getElem?_take, List.getElem?_drop]
  rcases k with _ | _ | k
  · rw [if_pos (by omega), Array.getElem?_toList, Nat.add_zero, g1]; rfl
  · rw [if_pos (by omega), Array.getElem?_toList, Nat.add_assoc, g2]; rfl
  · rw [if_neg (by omega)]; rfl
/- The library's sort, by either comparison. -/
theorem sort_calls {g : Nat} (eg : ∀ args w, (callFunc g args).run Try.prog w = .ok (.enter g args) w) (hc : ∀ x y W, Calls Try.prog g #[.agg #[.int .i64 x.1.1, .int .i64 x.1.2], .agg #[.int .i64 y.1.1, .int .i64 y.1.2]] W fun e w' => e = .returned (.int .i64 (cfS x y)) ∧ ∃ q os', w' = grow (W.drewN q) os')
    (b o cp : Nat) (d : Array SpO) (w : World) (hH : HoldsK enc2 2 w b o d) (hb : b < w.heap.size) (hs : d.size ≤ 400) :
    Calls Try.prog 32 #[.slice (some ⟨b, o, none⟩) d.size cp, .func (.func g) #[] #[]] w fun e w' =>
      e = .returned (.tuple #[]) ∧ ∃ n os, w' = grow (putRow id (Sort.ahead w n) b o (flatK enc2 2 (pdqS d))) os :=
  AnyQ.slices_SortFunc_eq sortSpan 2 Try.isAgg28 Try.sizeOf28 enc2 (fun _ => rfl) (fun x v hv => by simp [enc2] at hv; rcases hv with rfl | rfl <;> rfl) cfS swoS g #[] b o cp d w eg (fun _ _ _ _ x y => hc x y _) hH hb (by omega)

end Go.Proofs.Ytpnmfoojmodnlaa.Liftm
