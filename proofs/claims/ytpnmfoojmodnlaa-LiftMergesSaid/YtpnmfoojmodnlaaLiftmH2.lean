/-
  slices.SortFunc of spans keeps its contract.
-/
import Derived.Test.YtpnmfoojmodnlaaLiftmC
import Derived.Test.YtpnmfoojmodnlaaLiftmH1
import Derived.Shelf.SlSortCmp.NoneTotal
namespace Go.Proofs.Ytpnmfoojmodnlaa.Liftm
open Go.Sx
set_option maxRecDepth 100000
set_option maxHeartbeats 4000000
set_option linter.unusedSimpArgs false
set_option linter.unusedVariables false

open Go Go.Proofs Go.Shelf Go.Sort Go.RowKit
theorem two_args {w0 : Base} {ρ : Nat → Value} {w : World} {vs : Array Value} {u : Ty} {xs : List u.D} {nx f : Nat}
    (h : Ok w0 ρ { fr := [.one (.row 1), .one (.con (.func (.func f) #[] #[]))], hp := assoc [(1, .row u xs)], us := fun n => (assoc [(1, HE.row u xs)] n).isSome, nx := nx, bk := [] } { tmps := vs, defers := [] } w) : vs = #[ρ 1, .func (.func f) #[] #[]] := by
  have hl : vs.size = 2 := h.len.symm
  have h1 := (List.cons.inj (SVc.one1 (p := .row 1) rfl (by simp) (h.frame 0)).2.1).1
  have h2 := SVc.one1 (p := .con (.func (.func f) #[] #[])) rfl (by simp) (h.frame 1)
  obtain ⟨l⟩ := vs
  match l, hl with
  | [v, v'], _ =>
    have h3 : v = ρ 1 := h1
    have h4 : [v'] = [.func (.func f) #[] #[]] := h2.1
    rw [h3, (List.cons.inj h4).1]
theorem c_sort : PrcOk Try.prog 32 pSort := by
  refine ⟨⟨Try.f32, Try.func32, by kernel_rfl, by kernel_rfl⟩, ?_⟩
  intro w0 ρ w vs x h hp _
  obtain ⟨xs, u⟩ := x
  have h : Sx.Ok w0 ρ { fr := [.one (.row 1), .one (.con (.func (.func 33) #[] #[]))], hp := assoc [(1, .row tySpan xs)], us := fun n => (assoc [(1, HE.row tySpan xs)] n).isSome, nx := 2, bk := [] } { tmps := vs, defers := [] } w := h
  have hv := two_args h
  subst hv
  obtain ⟨hp, hall⟩ : xs.length ≤ 400 ∧ xs.all okS = true := hp
  have hok : ∀ p ∈ xs, okS p = true := fun p hp => List.all_eq_true.1 hall p hp
  rcases h.heap 1 (.row tySpan xs) rfl with ⟨e, rfl⟩ | ⟨b, o, cp, cur, e, h1, h2, h3, h4, h5, h6⟩
  · have e : ρ 1 = .slice none 0 0 := e
    rw [e]
    refine (AnyF.slices_SortFunc_none { sortSpan with } none 0 (.func (.func 33) #[] #[]) w).mono fun r w' hr => ?_
    obtain ⟨rfl, rfl⟩ := hr
    refine ⟨_, ρ, rfl, fun _ _ => rfl, ?_, ⟨_, rfl, trivial⟩⟩
    exact row_done h (BelowS.refl _ _) (fun _ _ _ => rfl) (fun c' _ _ e2 => .inl ⟨by rw [e2]; exact e, List.Perm.eq_nil (sortS_pm [])⟩)
  · have h1 : ρ 1 = .slice (some ⟨b, o, none⟩) xs.length cp := h1
    have h2 : w.heap[b]? = some (.cells cur e (0, 0)) := h2
    have hblt : b < w.heap.size := (Array.getElem?_eq_some_iff.1 h2).1
    have h5 : o + cp * 2 ≤ cur.size := h5
    have hnold := (h.fresh 1 _ b rfl (by show blkOf (ρ 1) = some b; rw [h1]; rfl)).1
    generalize hd : (xs.pmap Subtype.mk hok).toArray = d
    have hdx : d.toList.map Subtype.val = xs := by rw [← hd]; simp [List.map_pmap]
    have hdl : d.size = xs.length := by rw [← hdx]; simp
    have hsx : sortS xs = (pdqS d).toList.map Subtype.val := by rw [sortS_eq hok, hd]
    obtain ⟨hps, hpm⟩ := pdqS_perm d
    rw [h1, ← hdl]
    refine (sort_calls (enters_of Try.func33 (by kernel_rfl) rfl) cmpA b o cp d w (holds_pairs hdx h2 h6) hblt (by omega)).mono fun r w' hr => ?_
    obtain ⟨rfl, n, os, rfl⟩ := hr
    have hother : ∀ b', b' < w.heap.size → b' ≠ b → (grow (putRow id (Sort.ahead w n) b o (flatK enc2 2 (pdqS d))) os).heap[b']? = w.heap[b']? := fun b' hb' hne => by
      rw [heap_grow_old _ _ (by simpa using hb')]
      unfold putRow mapBlock
      simp only [heap_ahead, Array.getElem?_modify]
      rw [if_neg (fun e => hne e.symm)]
    have hat : (grow (putRow id (Sort.ahead w n) b o (flatK enc2 2 (pdqS d))) os).heap[b]? = some (.cells (putCells id o (flatK enc2 2 (pdqS d)) cur) e (0, 0)) := by
      rw [heap_grow_old _ _ (by simpa using hblt)]
      unfold putRow mapBlock
      simp only [heap_ahead, Array.getElem?_modify, if_true, h2, Option.map_some, onCells]
    have hpl : (sortS xs).length = xs.length := (sortS_pm xs).length_eq
    refine ⟨_, ρ, rfl, fun _ _ => rfl, ?_, ⟨_, rfl, trivial⟩⟩
    show Sx.Ok w0 ρ (hpOf [(1, .row tySpan (sortS xs))]) { tmps := #[], defers := [] } _
    refine row_done h ⟨rfl, rfl, rfl, by simp, fun k hk => hother k (h.oldlt hk) (fun e => hnold (e ▸ hk))⟩ (fun b' hb' hne => hother b' hb' (fun e => hne (by rw [h1, e]; rfl))) ?_
    intro c' _ e1 e2
    refine .inr ⟨b, o, cp, _, e, by rw [e2, h1, hpl], by rw [e1]; exact hat, by rw [hpl]; exact h3, h4, ?_, ?_⟩
    · show o + cp * 2 ≤ (putCells id o (flatK enc2 2 (pdqS d)) cur).size
      unfold putCells
      rw [Array.size_mapIdx]; exact h5
    · intro i y hy
      rw [hsx] at hy
      refine pairs_sorted (by omega) (fun z hz => ?_) i y hy
      have hz2 : z.1 ∈ xs := by rw [← hdx]; exact List.mem_map.2 ⟨z, hpm.mem_iff.1 hz, rfl⟩
      obtain ⟨j, hj⟩ := List.mem_iff_getElem?.1 hz2
      exact (pair_cell h6 hj).2.2

end Go.Proofs.Ytpnmfoojmodnlaa.Liftm
