/-
  slices.Sorted(slices.Values(l)) keeps its contract.
-/
import Derived.Test.YtpnmfoojmodnlaaLiftsC
import Derived.Test.YtpnmfoojmodnlaaLiftsH1
import Derived.Test.YtpnmfoojmodnlaaLiftsH3
namespace Go.Proofs.Ytpnmfoojmodnlaa.Lifts
open Go.Sx
set_option maxRecDepth 100000
set_option maxHeartbeats 4000000
set_option linter.unusedSimpArgs false
set_option linter.unusedVariables false

open Go Go.Proofs Go.Shelf Go.Sort Go.RowKit
theorem sortsA (m : Nat) : AnyZI.SortsIn Try.prog sortedA_ren Fence.wide m :=
  ⟨fun blk off cap ss W hH hblk hsz => callsIn_wide.2 (Any.slices_Sort_int sortA blk off cap ss W hH hblk hsz),
   fun p cap W => callsIn_wide.2 (Any.slices_Sort_int_none sortA p cap W)⟩
theorem seq_values {n : Nat} (hn : 1 ≤ n) {S : Nat → Prop} {w : World} {bx : Nat} {e : TypeId} {v : Value} {xs : List Int} (hS : ∀ b, S b → b < w.heap.size) (hb : w.heap[bx]? = some (.cells #[v] e (0, 0)))
    (hr : Rd S w (.sl I64) [v] xs) (hlen : xs.length ≤ 400) : SeqB Fence.wide n Try.prog 59 #[.pointer (some ⟨bx, 0, none⟩)] xs w := by
  intro l J W hJB hY h0
  obtain ⟨A, c, h1, h2, h3, h4⟩ := hr
  have h1 : v = .slice A xs.length c := (List.cons.inj h1).1
  subst h1
  have hlt : bx < w.heap.size := (Array.getElem?_eq_some_iff.1 hb).1
  have hcell : w.cell? ⟨bx, 0, none⟩ = some (.slice A xs.length c) := by simp [World.cell?, hb]
  by_cases hz : 0 < xs.length
  · obtain ⟨b, o, rfl, hSb, hx⟩ := h4 hz
    have := values1_gives Fence.wide n trivial rfl hn l bx w.heap.size b o xs.length c xs (by omega) (hS b hSb) J hY w W hJB hcell hlt (fun j hj => by
      obtain ⟨q, hq, hq2⟩ := hx j (xs[j]?.getD 0) (by simp [hj])
      obtain ⟨hq3, _⟩ : q = [Value.int .i64 (xs[j]?.getD 0)] ∧ IR .i64 (xs[j]?.getD 0) := hq2
      have := hq 0 (.int .i64 (xs[j]?.getD 0)) (by rw [hq3]; rfl)
      have e : o + (j * (I64 : Ty).size + 0) = o + j := by show o + (j * 1 + 0) = o + j; omega
      rw [e] at this
      exact this) h0
    rw [upto_all] at this
    exact this
  · have he : xs = [] := List.eq_nil_of_length_eq_zero (by omega)
    subst he
    exact values1_none Fence.wide n trivial rfl l bx c A J W (((hJB _ _ h0).cell (p := ⟨bx, 0, none⟩) hlt).trans hcell) h0
theorem c_sorted : CtrOkC Try.prog 34 59 [] cSorted := by
  refine ⟨⟨Try.f34, Try.func34, by kernel_rfl, by kernel_rfl⟩, ?_⟩
  intro S w bx e v x hS _ hb hr hp
  obtain ⟨xs, u⟩ := x
  have hp : xs.length ≤ 400 := hp
  have hr : Rd S w (.sl I64) [v] xs := hr.1
  have hIR : ∀ y ∈ xs, IR .i64 y := fun y hy => by
    obtain ⟨A, c, h1, h2, h3, h4⟩ := hr
    obtain ⟨i, hi⟩ := List.mem_iff_getElem?.1 hy
    obtain ⟨b, o, _, _, hx⟩ := h4 (List.length_pos_of_mem hy)
    obtain ⟨q, _, hq2⟩ := hx i y hi
    exact hq2.2
  refine (callsIn_wide (n := 4)).1 ((sorted_in Fence.wide 4 trivial trivial trivial trivial rfl (by omega) (sortsA _) 59 #[.pointer (some ⟨bx, 0, none⟩)] trivial (enters_of Try.func59 (by kernel_rfl) rfl) xs (by simp only [maxLen]; omega) (by omega) w (seq_values (by omega) hS hb hr hp)).mono ?_)
  rintro r w' ⟨v', rfl, hrow, hbel⟩
  refine ⟨v', rfl, ?_, hbel⟩
  show Rd _ w' (.sl I64) [v'] (sortI xs)
  have hl : (sortI xs).length = xs.length := sortI_perm.length_eq
  obtain ⟨hl2, hrow⟩ := hrow
  rcases hrow with ⟨rfl, hz⟩ | ⟨g, cap, cur, rfl, hbase, hg, r1, r2, r3, r4⟩
  · refine ⟨none, 0, by rw [hl, hz], by omega, Nat.zero_le _, fun h => by omega⟩
  · refine ⟨some ⟨g, 0, none⟩, cap, by rw [hl], by omega, r2, fun _ => ⟨g, 0, rfl, .inr ⟨hbase, (Array.getElem?_eq_some_iff.1 hg).1⟩, fun i y hy => ?_⟩⟩
    have hi : i < (sortI xs).length := (List.getElem?_eq_some_iff.1 hy).1
    refine ⟨[.int .i64 y], fun j u hj => ?_, rfl, hIR y (sortI_perm.mem_iff.1 (List.mem_iff_getElem?.2 ⟨i, hy⟩))⟩
    match j, hj with
    | 0, hj =>
      injection hj with hj
      subst hj
      have h5 : (cur.toList.take (xs.length * 1))[i]? = some (.int .i64 y) := by
        rw [r4]
        show ((sortI xs).map encZ)[i]? = _
        rw [List.getElem?_map, hy]; rfl
      rw [List.getElem?_take, if_pos (by omega), Array.getElem?_toList] at h5
      have e1 : 0 + (i * (I64 : Ty).size + 0) = i := by show 0 + (i * 1 + 0) = i; omega
      rw [e1]
      simp [World.cell?, hg, h5]

end Go.Proofs.Ytpnmfoojmodnlaa.Lifts
