/-
  slices.SortedFunc(slices.Values(l), ..) of spans keeps its contract.
-/
import Derived.Test.YtpnmfoojmodnlaaLiftmC
import Derived.Test.YtpnmfoojmodnlaaLiftmH2
import Derived.Test.YtpnmfoojmodnlaaLiftmH3
namespace Go.Proofs.Ytpnmfoojmodnlaa.Liftm
open Go.Sx
set_option maxRecDepth 100000
set_option maxHeartbeats 4000000
set_option linter.unusedSimpArgs false
set_option linter.unusedVariables false

open Go Go.Proofs Go.Shelf Go.Sort Go.RowKit Go.Maps
attribute [local go_sem] Oper.semAt_some
theorem collect_in (F : Fence) (n : Nat) (h8 : F.fn 54) (h11 : F.fn 69) (h7 : F.fn 55) (hro : F.round = none) (hn : 4 ≤ n) (Bx : Nat) (sv : Value)
    (zs : List (Int × Int)) (hN : zs.length ≤ maxLen) (hNb : zs.length * 16 ≤ 140737488351232) (w : World) (hBx : Bx < w.heap.size) (hc0 : w.cell? ⟨Bx, 0, none⟩ = some sv) (hI : Pairs w.heap.size w sv zs) :
    CallsIn F n Try.prog 54 #[.func (.func 55) #[] #[.pointer (some ⟨Bx, 0, none⟩)]] w fun e w' =>
      ∃ (v : Value), e = .returned v ∧ w'.ownsRow w.heap.size 28 2 v zs.length (cells2 zs) ∧ Below w.heap.size w w' := by
  have h1 : 1 ≤ n := by omega
  refine callsIn_of_wp Try.func54 rfl h8 ?_ hro
  simp only [Try.ntmps54, List.size_toArray, List.length_cons, List.length_nil, Nat.reduceAdd, Nat.reduceSub, Array.replicate_succ, Array.replicate_zero, List.push_toArray, List.append_toArray, List.nil_append, List.cons_append]
  gi_wp2_with (gi_at_call 69; refine (appendSeq_in F (n - 1) h11 h7 hro (by omega) Bx sv zs hN hNb _ hBx hc0 hI).mono ?_; rintro e w' ⟨v, rfl, hrow, hb⟩)
  go_ret
  exact ⟨v, rfl, hrow, hb⟩
theorem cells2_at : ∀ (zs : List (Int × Int)) (i : Nat) (x : Int × Int), zs[i]? = some x → ((cells2 zs).drop (i * 2)).take 2 = [.int .i64 x.1, .int .i64 x.2]
  | [], _, _, h => by cases h
  | z :: zs, 0, x, h => by
    injection h with h
    subst h
    rfl
  | z :: zs, i + 1, x, h => by
    have := cells2_at zs i x (by simpa using h)
    rw [show (i + 1) * 2 = 2 + i * 2 by omega, ← List.drop_drop]
    exact this
theorem c_sorted : CtrOkC Try.prog 29 55 [31] cSorted := by
  refine ⟨⟨Try.f29, Try.func29, by kernel_rfl, by kernel_rfl⟩, ?_⟩
  intro S w bx e v x hS _ hbx hr hp
  obtain ⟨xs, u⟩ := x
  obtain ⟨hp, hall⟩ : xs.length ≤ 400 ∧ xs.all okS = true := hp
  have hok : ∀ p ∈ xs, okS p = true := fun p hp => List.all_eq_true.1 hall p hp
  have hr : Rd S w (.sl tySpan) [v] xs := hr.1
  have hIR : ∀ (i : Nat) (y : Sp), xs[i]? = some y → IR .i64 y.1 ∧ IR .i64 y.2 := fun i y hi => by
    obtain ⟨A, c, h1, h2, h3, h4⟩ := hr
    obtain ⟨b, o, _, _, hx⟩ := h4 (List.length_pos_of_mem (List.mem_iff_getElem?.2 ⟨i, hi⟩))
    obtain ⟨q, _, _, _, _, ⟨_, hq1⟩, ⟨_, hq2⟩⟩ := hx i y hi
    exact ⟨hq1, hq2⟩
  have hlt : bx < w.heap.size := (Array.getElem?_eq_some_iff.1 hbx).1
  have hcell : w.cell? ⟨bx, 0, none⟩ = some v := by simp [World.cell?, hbx]
  have hI : Pairs w.heap.size w v xs := by
    obtain ⟨A, c, h1, h2, h3, h4⟩ := hr
    have h1 : v = .slice A xs.length c := (List.cons.inj h1).1
    by_cases hz : 0 < xs.length
    · obtain ⟨b, o, rfl, hSb, hx⟩ := h4 hz
      refine .inr ⟨b, o, c, h1, hS b hSb, fun j hj => ?_⟩
      obtain ⟨q, hq, l, m, e1, ⟨e2, _⟩, ⟨e3, _⟩⟩ := hx j (xs[j]?.getD (0, 0)) (by simp [hj])
      subst e1; subst e2; subst e3
      have c1 := hq 0 _ rfl
      have c2 := hq 1 _ rfl
      exact ⟨c1, c2⟩
    · have he : xs = [] := List.eq_nil_of_length_eq_zero (by omega)
      subst he
      exact .inl ⟨A, c, h1, rfl⟩
  refine (callsIn_wide (n := 5)).1 ?_
  have hf1 : Fence.wide.fn 54 := trivial
  have hf2 : Fence.wide.fn 32 := trivial
  refine callsIn_of_wp Try.func29 rfl trivial ?_ rfl
  simp only [List.map_cons, List.map_nil, Try.ntmps29, List.size_toArray, List.length_cons, List.length_nil, Nat.reduceAdd, Nat.reduceSub, Array.replicate_succ, Array.replicate_zero, List.push_toArray, List.append_toArray, List.nil_append, List.cons_append]
  gi_wp2_with (gi_at_call 54; refine (collect_in Fence.wide 4 trivial trivial trivial rfl (by omega) bx v xs (by simp only [maxLen]; omega) (by omega) _ hlt hcell hI).mono ?_; rintro e W ⟨v, rfl, hrow, hb⟩)
  have hl : (sortS xs).length = xs.length := (sortS_pm xs).length_eq
  rcases hrow.2 with ⟨rfl, hz⟩ | ⟨gb, cap, cur, rfl, hbase, hgb, r1, r2, r3, r4⟩
  · have hss : xs = [] := List.eq_nil_of_length_eq_zero hz
    have cS0 := (callsIn_wide (n := 4)).2 (AnyF.slices_SortFunc_none { sortSpan with } none 0 (.func (.func 31) #[] #[]) W)
    change CallsIn _ _ Try.prog 32 _ _ _ at cS0
    gi_wp2_with (gi_at_call 32; refine cS0.mono ?_; rintro e w' ⟨rfl, rfl⟩)
    go_ret
    refine ⟨_, rfl, ?_, hb⟩
    show Rd _ _ (.sl tySpan) [.slice none 0 0] (sortS xs)
    exact ⟨none, 0, by rw [hl, hz], by omega, Nat.zero_le _, fun h => by omega⟩
  · have hgl : gb < W.heap.size := (Array.getElem?_eq_some_iff.1 hgb).1
    generalize hd : (xs.pmap Subtype.mk hok).toArray = d
    have hdx : d.toList.map Subtype.val = xs := by rw [← hd]; simp [List.map_pmap]
    have hdl : d.size = xs.length := by rw [← hdx]; simp
    have hsx : sortS xs = (pdqS d).toList.map Subtype.val := by rw [sortS_eq hok, hd]
    obtain ⟨hps, hpm⟩ := pdqS_perm d
    have hrd : ∀ (i : Nat) (x : Sp), xs[i]? = some x → Rd (fun _ => True) W tySpan ((cur.toList.drop (0 + i * 2)).take 2) x := fun i x hi => by
      have hil : i < xs.length := (List.getElem?_eq_some_iff.1 hi).1
      have e1 : (cur.toList.drop (0 + i * 2)).take 2 = ((cells2 xs).drop (i * 2)).take 2 := by
        rw [← r4, List.drop_take, List.take_take, Nat.zero_add]
        congr 1; omega
      rw [e1, cells2_at xs i x hi]
      exact ⟨[.int .i64 x.1], [.int .i64 x.2], rfl, ⟨rfl, (hIR i x hi).1⟩, ⟨rfl, (hIR i x hi).2⟩⟩
    have cS := (callsIn_wide (n := 4)).2 (sort_calls (enters_of Try.func31 (by kernel_rfl) rfl) cmpB gb 0 cap d W (holds_pairs hdx hgb hrd) hgl (by omega))
    rw [hdl] at cS
    gi_wp2_with (gi_at_call 32; refine cS.mono ?_; rintro e w' ⟨rfl, nn, os, rfl⟩)
    go_ret
    have hat : (grow (putRow id (Sort.ahead W nn) gb 0 (flatK enc2 2 (pdqS d))) os).heap[gb]? = some (.cells (putCells id 0 (flatK enc2 2 (pdqS d)) cur) 28 (0, 0)) := by
      rw [heap_grow_old _ _ (by simpa using hgl)]
      unfold putRow mapBlock
      simp only [heap_ahead, Array.getElem?_modify, if_true, hgb, Option.map_some, onCells]
    have hother : ∀ b', b' < W.heap.size → b' ≠ gb → (grow (putRow id (Sort.ahead W nn) gb 0 (flatK enc2 2 (pdqS d))) os).heap[b']? = W.heap[b']? := fun b' hb' hne => by
      rw [heap_grow_old _ _ (by simpa using hb')]
      unfold putRow mapBlock
      simp only [heap_ahead, Array.getElem?_modify]
      rw [if_neg (fun e => hne e.symm)]
    have hbel : Below w.heap.size W (grow (putRow id (Sort.ahead W nn) gb 0 (flatK enc2 2 (pdqS d))) os) := ⟨rfl, rfl, rfl, by simp, fun k hk => hother k (Nat.lt_of_lt_of_le hk hb.size) (by omega)⟩
    refine ⟨_, rfl, ?_, hb.trans hbel⟩
    show Rd _ _ (.sl tySpan) [.slice (some ⟨gb, 0, none⟩) xs.length cap] (sortS xs)
    refine ⟨some ⟨gb, 0, none⟩, cap, by rw [hl], by omega, r2, fun _ => ⟨gb, 0, rfl, .inr ⟨hbase, by simp; omega⟩, fun i y hy => ?_⟩⟩
    have hi : i < (sortS xs).length := (List.getElem?_eq_some_iff.1 hy).1
    rw [hsx] at hy
    refine ⟨_, fun j u hj => ?_, pairs_sorted (cur := cur) (o := 0) (by omega) (fun z hz => ?_) i y hy⟩
    · rw [List.getElem?_take] at hj
      split at hj
      · rw [List.getElem?_drop, Array.getElem?_toList] at hj
        have e1 : 0 + (i * (tySpan : Ty).size + j) = 0 + i * 2 + j := by show 0 + (i * 2 + j) = 0 + i * 2 + j; omega
        rw [e1]
        simp only [World.cell?, hat]
        exact hj
      · cases hj
    · have hz2 : z.1 ∈ xs := by rw [← hdx]; exact List.mem_map.2 ⟨z, hpm.mem_iff.1 hz, rfl⟩
      obtain ⟨j, hj⟩ := List.mem_iff_getElem?.1 hz2
      exact hIR j _ hj

end Go.Proofs.Ytpnmfoojmodnlaa.Liftm
