/-
  The comparison of the cores' sort: cmp.Compare, cmp.Or, the closure.
-/
import Derived.Lib.Strings
import Derived.Lib.Slices
import Derived.Lib.Small
import Derived.Lib.Walk
import Derived.Lib.BitFns
import Derived.Shelf.SlSortCmp.NoneTotal
import Derived.StillTailTactics
import Derived.RangeFuncBox
import Derived.Test.YtpnmfoojmodnlaaChecked
namespace Go.Proofs.Ytpnmfoojmodnlaa.Cores
set_option maxRecDepth 100000
set_option maxHeartbeats 4000000
set_option linter.unusedSimpArgs false
set_option linter.unusedVariables false

open Go Go.Proofs Go.RowKit
theorem cell_two_new (w : World) (x y : Value) (t : TypeId) : ∀ j u, [x, y][j]? = some u → (w.alloc (.cells #[x, y] t)).cell? (⟨w.heap.size, j, none⟩ : Addr) = some u := by
  intro j u hj
  have hh := World.alloc_heap_new w (.cells #[x, y] t)
  have e : (w.alloc (.cells #[x, y] t)).cell? ⟨w.heap.size, j, none⟩ = #[x, y][j]? := by
    unfold World.cell?
    rw [show (⟨w.heap.size, j, none⟩ : Addr).block = w.heap.size from rfl, hh]
    rfl
  rw [e]
  simpa using hj
theorem f68_calls (x : Int) (W : World) : Calls Try.prog 68 #[.int .i64 x] W fun e w' => e = .returned (.bool false) ∧ w' = W := by
  go_enter Try.func68, Try.ntmps68
  go_wp2
  go_ret
  exact ⟨by simp, rfl⟩
def cmpI (x y : Int) : Int := if x < y then -1 else if y < x then 1 else 0
theorem f51_calls (x y : Int) (W : World) : Calls Try.prog 51 #[.int .i64 x, .int .i64 y] W fun e w' => e = .returned (.int .i64 (cmpI x y)) ∧ w' = W := by
  go_enter Try.func51, Try.ntmps51
  go_wp2_with (go_at_call 68; refine (f68_calls _ _).mono ?_; rintro e w' ⟨rfl, rfl⟩)
  all_goals
    go_ret
    refine ⟨?_, rfl⟩
    unfold cmpI
    first
      | (rw [if_pos (by omega)]; rfl)
      | (rw [if_neg (by omega), if_pos (by omega)]; rfl)
      | (rw [if_neg (by omega), if_neg (by omega)]; rfl)
theorem f50_calls (b : Nat) (x y : Int) (W : World) (hx : W.cell? ⟨b, 0, none⟩ = some (.int .i64 x)) (hy : W.cell? ⟨b, 1, none⟩ = some (.int .i64 y)) :
    Calls Try.prog 50 #[.slice (some ⟨b, 0, none⟩) 2 2] W fun e w' => e = .returned (.int .i64 (if x = 0 then y else x)) ∧ w' = W := by
  go_enter Try.func50, Try.ntmps50
  go_wp2
  go_loopw [8] (fun i wr => ∃ k : Nat, k ≤ 2 ∧ i = .int .i64 k ∧ wr = W ∧ (0 < k → x = 0) ∧ (1 < k → y = 0)) (fun i _ => 2 - (intOf i).toNat)
  case atStart => exact ⟨0, by omega, rfl, rfl, by omega, by omega⟩
  case round =>
    obtain ⟨k, hk, rfl, rfl, h1, h2⟩ := hrel
    rcases (show k = 0 ∨ k = 1 ∨ k = 2 by omega) with rfl | rfl | rfl
    · by_cases hz : x = 0
      · subst hz
        go_wp2
        go_roundw
        case rel => exact ⟨1, by omega, by simp, by first | rfl | simp, by first | trivial | simp, by first | trivial | omega⟩
        case measure => simp [intOf]
      · go_wp2
        go_ret
        exact ⟨by first | rfl | simp [hz], rfl⟩
    · have hx0 := h1 (by omega)
      subst hx0
      by_cases hz : y = 0
      · subst hz
        go_wp2
        go_roundw
        case rel => exact ⟨2, by omega, by simp, by first | rfl | simp, by first | trivial | simp, by first | trivial | simp⟩
        case measure => simp [intOf]
      · go_wp2
        go_ret
        exact ⟨by first | rfl | simp, rfl⟩
    · have hx0 := h1 (by omega)
      have hy0 := h2 (by omega)
      subst hx0; subst hy0
      go_wp2
      go_ret
      exact ⟨by first | rfl | simp, rfl⟩
theorem f49_calls (a b : Nat) (l1 t1 l2 t2 : Int) (W : World) (a1 : W.cell? ⟨a, 1, none⟩ = some (.int .i64 l1)) (a4 : W.cell? ⟨a, 4, none⟩ = some (.int .i64 t1)) (b1 : W.cell? ⟨b, 1, none⟩ = some (.int .i64 l2)) (b4 : W.cell? ⟨b, 4, none⟩ = some (.int .i64 t2)) :
    Calls Try.prog 49 #[.pointer (some ⟨a, 0, none⟩), .pointer (some ⟨b, 0, none⟩)] W fun e w' => e = .returned (.int .i64 (if cmpI l2 l1 = 0 then cmpI t1 t2 else cmpI l2 l1)) ∧ ∃ q os', w' = Sort.grow (W.drewN q) os' := by
  go_enter Try.func49, Try.ntmps49
  go_wp2
  refine wp_region_still_tail 20 (by kernel_rfl) (by kernel_rfl) ?_
  simp only [List.take_succ_cons, List.take_zero, List.drop_succ_cons, List.drop_zero]
  repeat (first | still_step | still_call (f51_calls _ _ _))
  refine wpStill_nil ?_
  change wpList _ _ _ _ _ (W.drewN 1)
  have c0 : ((W.drewN 1).alloc (.cells #[.int .i64 (cmpI l2 l1), .int .i64 (cmpI t1 t2)] 3)).cell? ⟨W.heap.size, 0, none⟩ = some (.int .i64 (cmpI l2 l1)) := cell_two_new (W.drewN 1) _ _ _ 0 _ rfl
  have c1 : ((W.drewN 1).alloc (.cells #[.int .i64 (cmpI l2 l1), .int .i64 (cmpI t1 t2)] 3)).cell? ⟨W.heap.size, 1, none⟩ = some (.int .i64 (cmpI t1 t2)) := cell_two_new (W.drewN 1) _ _ _ 1 _ rfl
  have hcall := f50_calls W.heap.size (cmpI l2 l1) (cmpI t1 t2) _ c0 c1
  clear c0 c1
  go_wp2_with (go_at_call 50; refine hcall.mono ?_; rintro e w' ⟨rfl, rfl⟩)
  all_goals (go_ret; exact ⟨rfl, 1, _, by rw [Sort.alloc_eq_grow]⟩)

end Go.Proofs.Ytpnmfoojmodnlaa.Cores
