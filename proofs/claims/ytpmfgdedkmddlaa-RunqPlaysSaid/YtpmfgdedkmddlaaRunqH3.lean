/-
  slices.Insert of ints keeps its contract: the four roads.
-/
import Derived.Test.YtpmfgdedkmddlaaRunqC
import Derived.Test.YtpmfgdedkmddlaaRunqH1
namespace Go.Proofs.Ytpmfgdedkmddlaa.Runq
open Go.Sx
set_option maxRecDepth 100000
set_option maxHeartbeats 4000000
set_option linter.unusedSimpArgs false
set_option linter.unusedVariables false

open Go Go.Proofs Go.Shelf Go.RowKit
theorem get_old {w w' : World} {b : Nat} {cur : Array Value} {e : TypeId} (h : w.heap[b]? = some (.cells cur e (0, 0))) {j : Nat} {v : Value} (hj : cur[j]? = some v) : w.cell? ⟨b, j, none⟩ = some v := by
  simp [World.cell?, h, hj]
theorem al_old (w : World) (o : Obj) {k : Nat} (h : k < w.heap.size) : (w.alloc o).heap[k]? = w.heap[k]? := by
  simp only [World.alloc]
  rw [Array.getElem?_push, if_neg (by omega)]
theorem al_new (w : World) (o : Obj) : (w.alloc o).heap[w.heap.size]? = some o := by
  simp only [World.alloc]
  rw [Array.getElem?_push, if_pos rfl]
theorem setC_keep (b : Nat) : ∀ (vs : List Value) (o : Nat) (w : World), (w.setCells b o vs).os = w.os ∧ (w.setCells b o vs).tape = w.tape ∧ (w.setCells b o vs).output = w.output ∧ (w.setCells b o vs).heap.size = w.heap.size ∧ ∀ k, k ≠ b → (w.setCells b o vs).heap[k]? = w.heap[k]?
  | [], _, _ => ⟨rfl, rfl, rfl, rfl, fun _ _ => rfl⟩
  | v :: r, o, w => by
    obtain ⟨a1, a2, a3, a4, a5⟩ := setC_keep b r (o + 1) (w.setCell ⟨b, o, none⟩ v)
    refine ⟨a1, a2, a3, a4.trans (by simp [World.setCell]), fun k hk => (a5 k hk).trans ?_⟩
    unfold World.setCell
    simp only [Array.getElem?_modify]
    rw [if_neg (fun e => hk e.symm)]
theorem insA_get {α : Type} {xs vs : List α} {i : Int} (h0 : 0 ≤ i) (h1 : i ≤ xs.length) (j : Nat) : (insA xs i vs)[j]? = if j < i.toNat then xs[j]? else if j < i.toNat + vs.length then vs[j - i.toNat]? else xs[j - vs.length]? := by
  unfold insA
  have hl : (xs.take i.toNat).length = i.toNat := by rw [List.length_take]; omega
  by_cases h : j < i.toNat
  · rw [if_pos h, List.getElem?_append_left (by omega), List.getElem?_take, if_pos h]
  · rw [if_neg h, List.getElem?_append_right (by omega), hl]
    by_cases h2 : j < i.toNat + vs.length
    · rw [if_pos h2, List.getElem?_append_left (by omega)]
    · rw [if_neg h2, List.getElem?_append_right (by omega), List.getElem?_drop]
      congr 1
      omega
theorem insA_len {α : Type} {xs vs : List α} {i : Int} (h0 : 0 ≤ i) (h1 : i ≤ xs.length) : (insA xs i vs).length = xs.length + vs.length := by
  unfold insA
  simp only [List.length_append, List.length_take, List.length_drop]
  omega
theorem encI_at {l : List Int} {j : Nat} : (encI l)[j]? = (l[j]?).map (.int .i64) := by unfold encI; rw [List.getElem?_map]
theorem encI_len {l : List Int} : (encI l).length = l.length := by unfold encI; simp
theorem c_ins : PrcOkO Try.prog 64 pIns 1 := by
  refine ⟨⟨Try.f64, Try.func64, by kernel_rfl, by kernel_rfl⟩, ?_⟩
  intro w0 ρ w args (x : List Int × Int × List Int × Unit) h hp _
  obtain ⟨xs, i, vs, u⟩ := x
  have h : Sx.Ok w0 ρ { fr := [.one (.row 1), .one (.d I64 i), .one (.row 2)], hp := assoc [(1, .row I64 xs), (2, .row I64 vs)], us := fun n => (assoc [(1, HE.row I64 xs), (2, .row I64 vs)] n).isSome, nx := 3, bk := [] } { tmps := args, defers := [] } w := h
  obtain ⟨ha, hir⟩ := ins_args h
  subst ha
  obtain ⟨hp, ⟨i0, i1⟩, hvl⟩ : (xs.length + 1) * 8 ≤ 140737488355328 ∧ ((0 : Int) ≤ i ∧ i ≤ (xs.length : Int)) ∧ vs.length = 1 := hp
  have fin : ∀ (v : Value) (w' : World), BelowS w0.old w w' → (∀ b, b < w.heap.size → blkOf (ρ 1) ≠ some b → w'.heap[b]? = w.heap[b]?) → (∀ b, blkOf v = some b → blkOf (ρ 1) = some b ∨ (w.heap.size ≤ b ∧ b < w'.heap.size)) →
      (∃ b o cp cur e, v = .slice (some ⟨b, o, none⟩) (insA xs i vs).length cp ∧ w'.heap[b]? = some (.cells cur e (0, 0)) ∧ (insA xs i vs).length ≤ cp ∧ cp ≤ maxLen ∧ o + cp ≤ cur.size ∧
        ∀ (j : Nat) (y : Int), (insA xs i vs)[j]? = some y → cur[o + j]? = some (.int .i64 y) ∧ IR .i64 y) →
      ∃ ρ2, Go.Ending.returned v = .returned (ρ2 1) ∧ (∀ n, n ≠ 1 → trkd (trks (pIns.inv (xs, i, vs, u)).heap) n = true → ρ2 n = ρ n) ∧ (ρ2 1).oneCell' = true ∧ Sx.Ok w0 ρ2 (hpOf (pIns.inv (pIns.f (xs, i, vs, u)).1).heap) { tmps := #[], defers := [] } w' := fun v w' q1 q2 q3 q4 =>
    ⟨rho1 ρ v, rfl, fun n hn _ => if_neg hn, by obtain ⟨b, o, cp, cur, e, g, _⟩ := q4; show v.oneCell' = true; rw [g]; rfl, rowO_done h q1 q2 q3 (.inr q4)⟩
  have hlen := insA_len (xs := xs) (vs := vs) i0 i1
  have hget := insA_get (xs := xs) (vs := vs) i0 i1
  rw [hvl] at hlen hget
  have ei : i = ((i.toNat : Nat) : Int) := by omega
  have hmax : (maxLen : Nat) ≤ 9223372036854775807 := by decide
  rcases h.heap 2 (.row I64 vs) rfl with ⟨_, e⟩ | ⟨b2, o2, cp2, cur2, e2, k1, k2, k3, k4, k5, k6⟩
  · rw [e] at hvl; cases hvl
  have j1 : ρ 2 = .slice (some ⟨b2, o2, none⟩) 1 cp2 := by rw [← hvl]; exact k1
  clear k1
  have k2 : w.heap[b2]? = some (.cells cur2 e2 (0, 0)) := k2
  have k5 : o2 + cp2 * 1 ≤ cur2.size := k5
  have k3 : vs.length ≤ cp2 := k3
  have k7 := rowI_get k6
  have hvs : ∀ j v, (encI vs)[j]? = some v → w.cell? ⟨b2, o2 + j, none⟩ = some v := fun j v hj => by
    obtain ⟨x, hx, rfl⟩ := encI_get hj
    exact get_old (w' := w) k2 (k7 j x hx).1
  have hb2lt : b2 < w.heap.size := (Array.getElem?_eq_some_iff.1 k2).1
  have hvl' : (encI vs).length = 1 := by rw [encI_len, hvl]
  rcases h.heap 1 (.row I64 xs) rfl with ⟨e, rfl⟩ | ⟨b, o, cp, cur, e, h1, h2, h3, h4, h5, h6⟩
  · have e0 : ρ 1 = .slice none 0 0 := e
    clear e
    have i1' : i ≤ 0 := by simpa using i1
    have hi : i = 0 := by omega
    subst hi
    rw [e0, j1]
    refine (Any2.slices_Insert_int_end_grow layIns none 0 0 b2 o2 1 cp2 [] (encI vs) w (by omega) (by omega) (by omega) (by omega) rfl hvl' (fun _ => rfl) (fun _ e => by cases e) hvs encI_one).mono fun r w' hr => ?_
    obtain ⟨rfl, rfl⟩ := hr
    have hge := grownCap_ge w (0 + 1) 0 (layIns_ren.t 3)
    have hcm := grownCap_le_maxLen w (0 + 1) 0 (layIns_ren.t 3) (by decide)
    generalize grownCap w (0 + 1) 0 (layIns_ren.t 3) = G at *
    refine fin _ _ ⟨rfl, rfl, rfl, by simp [World.alloc], fun q hq => al_old w.drew _ (h.oldlt hq)⟩ (fun q hq _ => al_old w.drew _ hq) (fun q hq => .inr ?_) ⟨w.heap.size, 0, G, _, _, by rw [hlen]; rfl, al_new w.drew _, by rw [hlen]; exact hge, hcm, ?_, fun j y hy => ?_⟩
    · injection hq with hq
      subst hq
      exact ⟨Nat.le_refl _, by simp [World.alloc]⟩
    · simp only [List.nil_append, Array.size_append, List.size_toArray, hvl', size_zeroCells]
      simp [Value.cells]
      omega
    · rw [hget] at hy
      have hj : j = 0 := by
        rcases Nat.lt_or_ge j 1 with g | g
        · omega
        · rw [if_neg (by simp), if_neg (by simp; omega)] at hy
          cases hy
      subst hj
      rw [if_neg (by simp), if_pos (by simp)] at hy
      refine ⟨?_, (k7 0 y hy).2⟩
      have : (encI vs)[0]? = some (.int .i64 y) := by rw [encI_at, show vs[0]? = some y from hy]; rfl
      simp only [List.nil_append, Nat.zero_add]
      rw [Array.getElem?_append_left (by simp [hvl'])]
      simpa using this
  have j2 : ρ 1 = .slice (some ⟨b, o, none⟩) xs.length cp := h1
  clear h1
  have g2 : w.heap[b]? = some (.cells cur e (0, 0)) := h2
  have g3 : xs.length ≤ cp := h3
  have g5 : o + cp * 1 ≤ cur.size := h5
  have g7 := rowI_get h6
  have hblt : b < w.heap.size := (Array.getElem?_eq_some_iff.1 g2).1
  have hbk : blkOf (ρ 1) = some b := by rw [j2]; rfl
  have hnold := (h.fresh 1 _ b rfl hbk).1
  have hne : b2 ≠ b := fun e1 => h.apart 1 2 _ _ b (by decide) rfl rfl hbk (by show blkOf (ρ 2) = some b; rw [j1, e1]; rfl)
  have hcs : ∀ j v, (encI xs)[j]? = some v → w.cell? ⟨b, o + j, none⟩ = some v := fun j v hj => by
    obtain ⟨x, hx, rfl⟩ := encI_get hj
    exact get_old (w' := w) g2 (g7 j x hx).1
  have hsome : ∀ j, j < cp → (w.cell? ⟨b, o + j, none⟩).isSome = true := fun j hj => by
    rw [get_old (w' := w) g2 (Array.getElem?_eq_getElem (show o + j < cur.size by omega))]; rfl
  have hfz : ∀ j, w.frozen? ⟨b, o + j, none⟩ = false := fun j => by simp [World.frozen?, g2]
  have hold : ∀ (w' : World), (∀ k, k ≠ b → w'.heap[k]? = w.heap[k]?) → ∀ k, k < w.heap.size → blkOf (ρ 1) ≠ some k → w'.heap[k]? = w.heap[k]? := fun w' hw k _ hk => hw k (fun e1 => hk (by rw [e1]; exact hbk))
  have hxl : (encI xs).length = xs.length := encI_len
  by_cases hroom : xs.length + 1 ≤ cp
  · by_cases hi : i.toNat = xs.length
    · have ei2 : i = (xs.length : Int) := by omega
      rw [j2, j1, ei2]
      refine (Any2.slices_Insert_int_end_room layIns b o xs.length cp b2 o2 1 cp2 (encI vs) w (by omega) hroom (by omega) hvl' (fun j hj => by have := hsome (xs.length + j) (by omega); rwa [← Nat.add_assoc] at this) (fun j _ => by have := hfz (xs.length + j); rwa [← Nat.add_assoc] at this) hvs encI_one).mono fun r w' hr => ?_
      obtain ⟨rfl, rfl⟩ := hr
      obtain ⟨a1, a2, a3, a4, a5⟩ := setC_keep b (encI vs) (o + xs.length) w
      rw [← ei2]
      refine fin _ _ ⟨a1, a2, a3, by omega, fun q hq => a5 q (fun e1 => hnold (e1 ▸ hq))⟩ (hold _ a5) (fun q hq => .inl ?_) ⟨b, o, cp, _, e, by rw [hlen], heap_setL b e _ _ _ _ g2, by omega, h4, by rw [setL_size]; omega, fun j y hy => ?_⟩
      · rw [hbk]; exact hq
      · rw [hget] at hy
        rw [setL_get _ _ _ _ (by rw [hvl']; omega), hvl']
        by_cases h7 : j < i.toNat
        · rw [if_pos h7] at hy
          rw [if_neg (by omega)]
          exact g7 j y hy
        · rw [if_neg h7] at hy
          by_cases h8 : j < i.toNat + 1
          · rw [if_pos h8] at hy
            rw [if_pos (by omega), show o + j - (o + xs.length) = j - i.toNat by omega, encI_at, hy]
            exact ⟨rfl, (k7 _ y hy).2⟩
          · rw [if_neg h8, List.getElem?_eq_none (by omega)] at hy
            cases hy
    · have hi2 : i.toNat < xs.length := by omega
      have hsh : w.shape? b2 = some (e2, cur2.size) := by simp [World.shape?, k2]
      have hsh2 : w.shape? b = some (e, cur.size) := by simp [World.shape?, g2]
      have key := Any2.slices_Insert_int_shift layIns b o xs.length cp i.toNat b2 o2 1 cp2 (encI xs) (encI vs) w hi2 (by omega) hroom (by omega) hne hxl hvl' hcs (fun j hj => hsome j (by omega)) (fun j _ => hfz j) hvs encI_one encI_one
        e2 e cur2.size cur.size hsh hsh2 (by omega) (by simp [World.frozen?, k2]) (by simp [World.frozen?, k2])
      rw [← ei] at key
      rw [j2, j1]
      refine key.mono fun r w' hr => ?_
      obtain ⟨rfl, rfl⟩ := hr
      obtain ⟨a1, a2, a3, a4, a5⟩ := setC_keep b ((encI xs).drop i.toNat) (o + (i.toNat + 1)) w.drew
      obtain ⟨c1, c2, c3, c4, c5⟩ := setC_keep b (encI vs) (o + i.toNat) (w.drew.setCells b (o + (i.toNat + 1)) ((encI xs).drop i.toNat))
      have hdl : ((encI xs).drop i.toNat).length = xs.length - i.toNat := by rw [List.length_drop, hxl]
      have hw' : ∀ k, k ≠ b → ((w.drew.setCells b (o + (i.toNat + 1)) ((encI xs).drop i.toNat)).setCells b (o + i.toNat) (encI vs)).heap[k]? = w.heap[k]? := fun k hk => (c5 k hk).trans (a5 k hk)
      refine fin _ _ ⟨c1.trans a1, c2.trans a2, c3.trans a3, by rw [c4, a4]; exact Nat.le_refl _, fun q hq => hw' q (fun e1 => hnold (e1 ▸ hq))⟩ (hold _ hw') (fun q hq => .inl ?_)
        ⟨b, o, cp, _, e, by rw [hlen], heap_setL b e _ _ _ _ (heap_setL b e _ _ _ w.drew g2), by omega, h4, by rw [setL_size, setL_size]; omega, fun j y hy => ?_⟩
      · rw [hbk]; exact hq
      · rw [hget] at hy
        rw [setL_get _ _ _ _ (by rw [hvl', setL_size]; omega), hvl', setL_get _ _ _ _ (by rw [hdl]; omega), hdl]
        by_cases h7 : j < i.toNat
        · rw [if_pos h7] at hy
          rw [if_neg (by omega), if_neg (by omega)]
          exact g7 j y hy
        · rw [if_neg h7] at hy
          by_cases h8 : j < i.toNat + 1
          · rw [if_pos h8] at hy
            rw [if_pos (by omega), show o + j - (o + i.toNat) = j - i.toNat by omega, encI_at, hy]
            exact ⟨rfl, (k7 _ y hy).2⟩
          · rw [if_neg h8] at hy
            have hjl := (List.getElem?_eq_some_iff.1 hy).1
            rw [if_neg (by omega), if_pos (by omega), List.getElem?_drop, show i.toNat + (o + j - (o + (i.toNat + 1))) = j - 1 by omega, encI_at, hy]
            exact ⟨rfl, (g7 _ y hy).2⟩
  · have hge := grownCap_ge w (xs.length + 1) cp (layIns_ren.t 3)
    have hcm := grownCap_le_maxLen w (xs.length + 1) cp (layIns_ren.t 3) (by show xs.length + 1 ≤ maxLen; have : 17592186044416 ≤ maxLen := by decide
                                                                             omega)
    by_cases hi : i.toNat = xs.length
    · have ei2 : i = (xs.length : Int) := by omega
      rw [j2, j1, ei2]
      refine (Any2.slices_Insert_int_end_grow layIns (some ⟨b, o, none⟩) xs.length cp b2 o2 1 cp2 (encI xs) (encI vs) w (by omega) g3 (by omega) (by omega) hxl hvl' (fun e1 => by cases e1) (fun a e1 j v hj => by
        injection e1 with e1
        subst e1
        rw [Addr.add_lit]
        exact hcs j v hj) hvs encI_one).mono fun r w' hr => ?_
      obtain ⟨rfl, rfl⟩ := hr
      generalize grownCap w (xs.length + 1) cp (layIns_ren.t 3) = G at *
      rw [← ei2]
      refine fin _ _ ⟨rfl, rfl, rfl, by simp [World.alloc], fun q hq => al_old w.drew _ (h.oldlt hq)⟩ (fun q hq _ => al_old w.drew _ hq) (fun q hq => .inr ?_) ⟨w.heap.size, 0, G, _, _, by rw [hlen], al_new w.drew _, by rw [hlen]; exact hge, hcm, ?_, fun j y hy => ?_⟩
      · injection hq with hq
        subst hq
        exact ⟨Nat.le_refl _, by simp [World.alloc]⟩
      · simp only [Array.size_append, List.size_toArray, List.length_append, hxl, hvl', size_zeroCells]
        simp [Value.cells]
        omega
      · rw [hget] at hy
        have hjl : j < xs.length + 1 := by rw [← hlen]; exact (List.getElem?_eq_some_iff.1 (by rw [hget]; exact hy)).1
        have hin : (encI xs ++ encI vs)[j]? = some (.int .i64 y) ∧ IR .i64 y := by
          by_cases h7 : j < i.toNat
          · rw [if_pos h7] at hy
            rw [List.getElem?_append_left (by omega), encI_at, hy]
            exact ⟨rfl, (g7 j y hy).2⟩
          · rw [if_neg h7, if_pos (by omega)] at hy
            rw [List.getElem?_append_right (by omega), hxl, show j - xs.length = j - i.toNat by omega, encI_at, hy]
            exact ⟨rfl, (k7 _ y hy).2⟩
        refine ⟨?_, hin.2⟩
        rw [Nat.zero_add, Array.getElem?_append_left (by simp [hxl, hvl']; omega)]
        simpa using hin.1
    · have hi2 : i.toNat < xs.length := by omega
      have key := Any2.slices_Insert_int_grow layIns b o xs.length cp i.toNat b2 o2 1 cp2 (encI xs) (encI vs) w hi2 (by omega) g3 (by omega) (by omega) hxl hvl' hcs hvs encI_one encI_one
      rw [← ei] at key
      rw [j2, j1]
      refine key.mono fun r w' hr => ?_
      obtain ⟨rfl, rfl⟩ := hr
      generalize grownCap w (xs.length + 1) cp (layIns_ren.t 3) = G at *
      generalize hC : ((encI xs).take i.toNat).toArray ++ Builtin.zeroCells (Value.int .i64 0).cells (xs.length + 1 - i.toNat) ++ Builtin.zeroCells (Value.int .i64 0).cells (G - (xs.length + 1)) = C
      have hCl : C.size = G := by
        rw [← hC]
        simp only [Array.size_append, List.size_toArray, List.length_take, hxl, size_zeroCells]
        simp [Value.cells]
        omega
      have hCget : ∀ j, j < i.toNat → C[j]? = (encI xs)[j]? := fun j hj => by
        rw [← hC, Array.append_assoc, Array.getElem?_append_left (by simp [hxl]; omega)]
        simp [List.getElem?_take, hj]
      have hdl : ((encI xs).drop i.toNat).length = xs.length - i.toNat := by rw [List.length_drop, hxl]
      have hW0 : ((w.alloc (.cells C (layIns_ren.t 3))).drew).heap[w.heap.size]? = some (.cells C (layIns_ren.t 3) (0, 0)) := al_new w _
      have hW1 := heap_setL w.heap.size (layIns_ren.t 3) (encI vs) i.toNat C _ hW0
      have hW2 := heap_setL w.heap.size (layIns_ren.t 3) ((encI xs).drop i.toNat) (i.toNat + 1) _ (((w.alloc (.cells C (layIns_ren.t 3))).drew.setCells w.heap.size i.toNat (encI vs)).drew) hW1
      obtain ⟨a1, a2, a3, a4, a5⟩ := setC_keep w.heap.size (encI vs) i.toNat (w.alloc (.cells C (layIns_ren.t 3))).drew
      obtain ⟨c1, c2, c3, c4, c5⟩ := setC_keep w.heap.size ((encI xs).drop i.toNat) (i.toNat + 1) (((w.alloc (.cells C (layIns_ren.t 3))).drew.setCells w.heap.size i.toNat (encI vs)).drew)
      have hsz : (w.alloc (.cells C (layIns_ren.t 3))).heap.size = w.heap.size + 1 := by simp only [World.alloc, Array.size_push]
      have hwo : ∀ k, k < w.heap.size → ((((w.alloc (.cells C (layIns_ren.t 3))).drew.setCells w.heap.size i.toNat (encI vs)).drew).setCells w.heap.size (i.toNat + 1) ((encI xs).drop i.toNat)).heap[k]? = w.heap[k]? := fun k hk =>
        (c5 k (by omega)).trans ((a5 k (by omega)).trans (al_old w _ hk))
      have hsz2 : ((((w.alloc (.cells C (layIns_ren.t 3))).drew.setCells w.heap.size i.toNat (encI vs)).drew).setCells w.heap.size (i.toNat + 1) ((encI xs).drop i.toNat)).heap.size = w.heap.size + 1 := c4.trans (a4.trans hsz)
      refine fin _ _ ⟨c1.trans a1, c2.trans a2, c3.trans a3, by omega, fun q hq => hwo q (h.oldlt hq)⟩ (fun q hq _ => hwo q hq) (fun q hq => .inr ?_) ⟨w.heap.size, 0, G, _, _, by rw [hlen], hW2, by omega, hcm, by rw [setL_size, setL_size, hCl]; omega, fun j y hy => ?_⟩
      · injection hq with hq
        subst hq
        exact ⟨Nat.le_refl _, Nat.lt_of_lt_of_eq (Nat.lt_succ_self _) hsz2.symm⟩
      · rw [hget] at hy
        rw [Nat.zero_add, setL_get _ _ _ _ (by rw [setL_size, hdl, hCl]; omega), hdl, setL_get _ _ _ _ (by rw [hvl', hCl]; omega), hvl']
        by_cases h7 : j < i.toNat
        · rw [if_pos h7] at hy
          rw [if_neg (by omega), if_neg (by omega), hCget j h7, encI_at, hy]
          exact ⟨rfl, (g7 j y hy).2⟩
        · rw [if_neg h7] at hy
          by_cases h8 : j < i.toNat + 1
          · rw [if_pos h8] at hy
            rw [if_neg (by omega), if_pos (by omega), encI_at, hy]
            exact ⟨rfl, (k7 _ y hy).2⟩
          · rw [if_neg h8] at hy
            have hjl := (List.getElem?_eq_some_iff.1 hy).1
            rw [if_pos (by omega), List.getElem?_drop, show i.toNat + (j - (i.toNat + 1)) = j - 1 by omega, encI_at, hy]
            exact ⟨rfl, (g7 _ y hy).2⟩

end Go.Proofs.Ytpmfgdedkmddlaa.Runq
