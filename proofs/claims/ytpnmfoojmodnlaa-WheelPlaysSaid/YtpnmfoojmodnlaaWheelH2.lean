/-
  slices.SortFunc of what fired keeps its contract.
-/
import Derived.Test.YtpnmfoojmodnlaaWheelC
import Derived.Test.YtpnmfoojmodnlaaWheelH1
import Derived.Lib.Strings
import Derived.Lib.Slices
import Derived.Lib.Small
import Derived.Lib.Walk
import Derived.Lib.BitFns
import Derived.Shelf.SlSortCmp.NoneTotal
namespace Go.Proofs.Ytpnmfoojmodnlaa.Wheel
open Go.Sx
set_option maxRecDepth 100000
set_option maxHeartbeats 4000000
set_option linter.unusedSimpArgs false
set_option linter.unusedVariables false

open Go Go.Proofs Go.Shelf Go.Sort Go.RowKit
theorem leH_iff {x y : TI2} : leF x y = true ↔ x.1 < y.1 ∨ (x.1 = y.1 ∧ x.2 ≤ y.2) := by unfold leF; simp
theorem okF_iff {p : TI2} : okF p = true ↔ 0 ≤ p.1 ∧ p.1 ≤ 1099511627776 := by unfold okF; simp
abbrev SpO : Type := { p : TI2 // okF p = true }
instance : Inhabited SpO := ⟨⟨(0, 0), rfl⟩⟩
def cfF (x y : SpO) : Int := if x.1.1 ≠ y.1.1 then x.1.1 - y.1.1 else if x.1.2 < y.1.2 then -1 else 1
theorem ltF (x y : SpO) : ltOf cfF x y = decide (x.1.1 < y.1.1 ∨ (x.1.1 = y.1.1 ∧ x.1.2 < y.1.2)) := by
  unfold ltOf cfF
  congr 1
  simp only [eq_iff_iff]
  split
  · omega
  · split <;> omega
theorem swoF : SWO (ltOf cfF) where
  irrefl x := by rw [ltF]; simp
  trans x y z h1 h2 := by rw [ltF] at *; simp only [decide_eq_true_eq] at *; omega
  ntrans x y z h1 h2 := by rw [ltF] at *; simp only [decide_eq_false_iff_not] at *; omega
noncomputable def pdqF (d : Array SpO) : Array SpO := pdq (ltOf cfF) d 0 d.size (Go.Lib.bitLen d.size) true true
theorem pdqF_perm (d : Array SpO) : (pdqF d).size = d.size ∧ (pdqF d).toList.Perm d.toList := by
  have h := (pdq_sorts (ltOf cfF) swoF d 0 d.size (Go.Lib.bitLen d.size) true true (Nat.zero_le _) (Nat.le_refl _) (Or.inl rfl)).1
  obtain ⟨h1, _, h3⟩ := h
  refine ⟨h1, ?_⟩
  have e1 : (pdqF d).extract 0 d.size = pdqF d := by
    have h1 : (pdqF d).size = d.size := h1
    rw [← h1]; simp
  have e2 : d.extract 0 d.size = d := by simp
  have h3 : ((pdqF d).extract 0 d.size).toList.Perm (d.extract 0 d.size).toList := h3
  rwa [e1, e2] at h3
theorem sortH_pm (l : List TI2) : (sortF l).Perm l := List.mergeSort_perm _ _
theorem sortF_pdq {l : List TI2} (h : ∀ p ∈ l, okF p = true) : sortF l = (pdqF (l.pmap Subtype.mk h).toArray).toList.map Subtype.val := by
  have hp := (pdqF_perm (l.pmap Subtype.mk h).toArray).2.map Subtype.val
  have hp2 : ((pdqF (l.pmap Subtype.mk h).toArray).toList.map Subtype.val).Perm l := hp.trans (by simp [List.map_pmap])
  refine ((sortH_pm l).trans hp2.symm).eq_of_pairwise (le := fun a b => leF a b = true) (fun a b _ _ h1 h2 => ?_) (List.pairwise_mergeSort (fun a b c h1 h2 => by rw [leH_iff] at *; omega) (fun a b => by rw [Bool.or_eq_true, leH_iff, leH_iff]; omega) l) ?_
  · rw [leH_iff] at h1 h2
    obtain ⟨a1, a2⟩ := a
    obtain ⟨b1, b2⟩ := b
    simp only [Prod.mk.injEq] at *
    omega
  · rw [List.pairwise_map]
    generalize (l.pmap Subtype.mk h).toArray = d
    have hs := (pdq_sorts (ltOf cfF) swoF d 0 d.size (Go.Lib.bitLen d.size) true true (Nat.zero_le _) (Nat.le_refl _) (Or.inl rfl)).2
    rw [List.pairwise_iff_getElem]
    intro i j hi hj hij
    have hps := (pdqF_perm d).1
    have hj' : j < (pdqF d).size := by simpa using hj
    have hi' : i < (pdqF d).size := by omega
    have h1 : ltOf cfF (pdqF d)[j]! (pdqF d)[i]! = false := hs i j (Nat.zero_le _) hij (by omega)
    rw [ltF, getElem!_pos _ j hj', getElem!_pos _ i hi'] at h1
    simp only [decide_eq_false_iff_not] at h1
    rw [leH_iff]
    simp only [Array.getElem_toList]
    omega
def enc2 (x : SpO) : List Value := [.int .i64 x.1.1, .int .i64 x.1.2]
theorem wrF (x y : SpO) : IntKind.i64.wrap (x.1.1 - y.1.1) = x.1.1 - y.1.1 := by
  have hx := okF_iff.1 x.2
  have hy := okF_iff.1 y.2
  exact wrap_in (k := .i64) ⟨by omega, by omega⟩
theorem cmpA (x y : SpO) (W : World) : Calls Try.prog 47 #[.agg #[.int .i64 x.1.1, .int .i64 x.1.2], .agg #[.int .i64 y.1.1, .int .i64 y.1.2]] W fun e w' => e = .returned (.int .i64 (cfF x y)) ∧ ∃ q os', w' = grow (W.drewN q) os' := by
  have hw := wrF x y
  unfold cfF
  generalize x.1.1 = x1 at *
  generalize x.1.2 = x2 at *
  generalize y.1.1 = y1 at *
  generalize y.1.2 = y2 at *
  by_cases h1 : x1 = y1
  · by_cases h2 : x2 < y2
    · rw [if_neg (fun g => g h1), if_pos h2]
      go_enter Try.func47, Try.ntmps47
      go_wp2
      go_ret
      exact ⟨rfl, 0, _, by rw [alloc_eq_grow, alloc_eq_grow, grow_grow]; rfl⟩
    · rw [if_neg (fun g => g h1), if_neg h2]
      go_enter Try.func47, Try.ntmps47
      go_wp2
      go_ret
      exact ⟨rfl, 0, _, by rw [alloc_eq_grow, alloc_eq_grow, grow_grow]; rfl⟩
  · rw [if_pos h1]
    go_enter Try.func47, Try.ntmps47
    go_wp2
    go_ret
    exact ⟨rfl, 0, _, by rw [alloc_eq_grow, alloc_eq_grow, grow_grow]; rfl⟩
theorem pair_cell {S : Nat → Prop} {w : World} {cur : Array Value} {o : Nat} {xs : List TI2} (h : ∀ (i : Nat) (x : TI2), xs[i]? = some x → Rd S w tyFired ((cur.toList.drop (o + i * 2)).take 2) x) {i : Nat} {x : TI2} (hi : xs[i]? = some x) :
    cur[o + i * 2]? = some (.int .i64 x.1) ∧ cur[o + i * 2 + 1]? = some (.int .i64 x.2) ∧ IR .i64 x.1 ∧ IR .i64 x.2 := by
  obtain ⟨l, m, h2, ⟨rfl, h3⟩, ⟨rfl, h4⟩⟩ := h i x hi
  refine ⟨?_, ?_, h3, h4⟩
  · have h5 : ((cur.toList.drop (o + i * 2)).take 2)[0]? = some (.int .i64 x.1) := by rw [h2]; rfl
    rw [List.getElem?_take, if_pos (by omega), List.getElem?_drop] at h5
    simpa using h5
  · have h5 : ((cur.toList.drop (o + i * 2)).take 2)[1]? = some (.int .i64 x.2) := by rw [h2]; rfl
    rw [List.getElem?_take, if_pos (by omega), List.getElem?_drop] at h5
    simpa using h5
theorem flat_get (d : Array SpO) {i : Nat} (h : i < d.size) (x : SpO) (hx : d[i]? = some x) : (flatK enc2 2 d)[i * 2]! = .int .i64 x.1.1 ∧ (flatK enc2 2 d)[i * 2 + 1]! = .int .i64 x.1.2 := by
  have e : d[i]! = x := by
    rw [getElem!_pos d i h]
    exact (Array.getElem?_eq_some_iff.1 hx).2
  rw [get_flatK _ _ _ _ (by omega), get_flatK _ _ _ _ (by omega), show i * 2 / 2 = i by omega, show i * 2 % 2 = 0 by omega, show (i * 2 + 1) / 2 = i by omega, show (i * 2 + 1) % 2 = 1 by omega, e]
  exact ⟨rfl, rfl⟩
theorem holds_pairs {S : Nat → Prop} {w : World} {cur : Array Value} {b o : Nat} {e : TypeId} {xs : List TI2} {d : Array SpO} (hd : d.toList.map Subtype.val = xs) (hb : w.heap[b]? = some (.cells cur e (0, 0)))
    (h : ∀ (i : Nat) (x : TI2), xs[i]? = some x → Rd S w tyFired ((cur.toList.drop (o + i * 2)).take 2) x) : HoldsK enc2 2 w b o d := by
  intro j hj
  rw [size_flatK] at hj
  have hi : j / 2 < d.size := by omega
  have hx : d[j / 2]? = some d[j / 2] := by simp [hi]
  have hx2 : xs[j / 2]? = some d[j / 2].1 := by rw [← hd]; simp [hi]
  obtain ⟨c1, c2, _, _⟩ := pair_cell h hx2
  obtain ⟨f1, f2⟩ := flat_get d hi _ hx
  refine ⟨?_, by simp [World.frozen?, hb]⟩
  simp only [id]
  rcases Nat.mod_two_eq_zero_or_one j with hm | hm
  · rw [show j = j / 2 * 2 by omega, f1]
    simp [World.cell?, hb, c1]
  · rw [show j = j / 2 * 2 + 1 by omega, f2, ← Nat.add_assoc]
    simp [World.cell?, hb, c2]
theorem put_get {F : Array Value} {cur : Array Value} {o j : Nat} (h : j < F.size) (hc : o + j < cur.size) : (putCells id o F cur)[o + j]? = some F[j]! := by
  unfold putCells
  rw [Array.getElem?_mapIdx, Array.getElem?_eq_getElem hc]
  simp only [Option.map_some]
  rw [if_pos (by omega), show o + j - o = j by omega]
  rfl
theorem pairs_sorted {S : Nat → Prop} {w : World} {cur : Array Value} {o : Nat} {d : Array SpO} (hfit : o + d.size * 2 ≤ cur.size) (hr : ∀ y ∈ d.toList, IR .i64 y.1.1 ∧ IR .i64 y.1.2) (i : Nat) (y : TI2) (h : (d.toList.map Subtype.val)[i]? = some y) :
    Rd S w tyFired (((putCells id o (flatK enc2 2 d) cur).toList.drop (o + i * 2)).take 2) y := by
  rw [List.getElem?_map] at h
  obtain ⟨q, hq, rfl⟩ := Option.map_eq_some_iff.1 h
  have hi : i < d.size := by
    have := (List.getElem?_eq_some_iff.1 hq).1
    simpa using this
  have hx : d[i]? = some q := by simpa using hq
  obtain ⟨f1, f2⟩ := flat_get d hi q hx
  obtain ⟨r1, r2⟩ := hr q (List.mem_iff_getElem?.2 ⟨i, hq⟩)
  have g1 := put_get (F := flatK enc2 2 d) (cur := cur) (o := o) (j := i * 2) (by rw [size_flatK]; omega) (by omega)
  have g2 := put_get (F := flatK enc2 2 d) (cur := cur) (o := o) (j := i * 2 + 1) (by rw [size_flatK]; omega) (by omega)
  rw [f1] at g1
  rw [f2] at g2
  refine ⟨[.int .i64 q.1.1], [.int .i64 q.1.2], ?_, ⟨rfl, r1⟩, ⟨rfl, r2⟩⟩
  apply List.ext_getElem?
  intro k
  rw [List.getElem?_take, List.getElem?_drop]
  rcases k with _ | _ | k
  · rw [if_pos (by omega), Array.getElem?_toList, Nat.add_zero, g1]; rfl
  · rw [if_pos (by omega), Array.getElem?_toList, Nat.add_assoc, g2]; rfl
  · rw [if_neg (by omega)]; rfl
theorem sort_calls {g : Nat} (eg : ∀ args w, (callFunc g args).run Try.prog w = .ok (.enter g args) w) (hc : ∀ x y W, Calls Try.prog g #[.agg #[.int .i64 x.1.1, .int .i64 x.1.2], .agg #[.int .i64 y.1.1, .int .i64 y.1.2]] W fun e w' => e = .returned (.int .i64 (cfF x y)) ∧ ∃ q os', w' = grow (W.drewN q) os')
    (b o cp : Nat) (d : Array SpO) (w : World) (hH : HoldsK enc2 2 w b o d) (hb : b < w.heap.size) (hs : d.size ≤ 400) :
    Calls Try.prog 46 #[.slice (some ⟨b, o, none⟩) d.size cp, .func (.func g) #[] #[]] w fun e w' =>
      e = .returned (.tuple #[]) ∧ ∃ n os, w' = grow (putRow id (Sort.ahead w n) b o (flatK enc2 2 (pdqF d))) os :=
  AnyQ.slices_SortFunc_eq sortFired 2 Try.isAgg51 Try.sizeOf51 enc2 (fun _ => rfl) (fun x v hv => by simp [enc2] at hv; rcases hv with rfl | rfl <;> rfl) cfF swoF g #[] b o cp d w eg (fun _ _ _ _ x y => hc x y _) hH hb (by omega)
theorem two_args {w0 : Base} {ρ : Nat → Value} {w : World} {vs : Array Value} {u : Ty} {xs : List u.D} {nx f : Nat}
    (h : Ok w0 ρ { fr := [.one (.row 1), .one (.con (.func (.func f) #[] #[]))], hp := assoc [(1, .row u xs)], us := fun n => (assoc [(1, HE.row u xs)] n).isSome, nx := nx, bk := [] } { tmps := vs, defers := [] } w) : vs = #[ρ 1, .func (.func f) #[] #[]] := by
  have hl : vs.size = 2 := h.len.symm
  have h1 := (List.cons.inj (SVc.one1 (p := .row 1) rfl (by simp) (h.frame 0)).2.1).1
  have h2 := SVc.one1 (p := .con (.func (.func f) #[] #[])) rfl (by simp) (h.frame 1)
  obtain ⟨l⟩ := vs
  match l, hl with
  | [v, v'], _ =>
    have h3 : v = ρ 1 := h1
    have h4 : [v'] = [.func (.func f) #[] #[]] := h2.1
    rw [h3, (List.cons.inj h4).1]
theorem c_sortf : PrcOk Try.prog 46 pSortF := by
  refine ⟨⟨Try.f46, Try.func46, by kernel_rfl, by kernel_rfl⟩, ?_⟩
  intro w0 ρ w vs x h hp _
  obtain ⟨xs, u⟩ := x
  have h : Sx.Ok w0 ρ { fr := [.one (.row 1), .one (.con (.func (.func 47) #[] #[]))], hp := assoc [(1, .row tyFired xs)], us := fun n => (assoc [(1, HE.row tyFired xs)] n).isSome, nx := 2, bk := [] } { tmps := vs, defers := [] } w := h
  have hv := two_args h
  subst hv
  obtain ⟨hp, hall, _⟩ : xs.length ≤ 400 ∧ xs.all okF = true ∧ xs.Nodup := hp
  have hok : ∀ p ∈ xs, okF p = true := fun p hp => List.all_eq_true.1 hall p hp
  rcases h.heap 1 (.row tyFired xs) rfl with ⟨e, rfl⟩ | ⟨b, o, cp, cur, e, h1, h2, h3, h4, h5, h6⟩
  · have e : ρ 1 = .slice none 0 0 := e
    rw [e]
    refine (AnyF.slices_SortFunc_none { sortFired with } none 0 (.func (.func 47) #[] #[]) w).mono fun r w' hr => ?_
    obtain ⟨rfl, rfl⟩ := hr
    refine ⟨_, ρ, rfl, fun _ _ => rfl, ?_, ⟨_, rfl, trivial⟩⟩
    exact row_done h (BelowS.refl _ _) (fun _ _ _ => rfl) (fun c' _ _ e2 => .inl ⟨by rw [e2]; exact e, List.Perm.eq_nil (sortH_pm [])⟩)
  · have h1 : ρ 1 = .slice (some ⟨b, o, none⟩) xs.length cp := h1
    have h2 : w.heap[b]? = some (.cells cur e (0, 0)) := h2
    have hblt : b < w.heap.size := (Array.getElem?_eq_some_iff.1 h2).1
    have h5 : o + cp * 2 ≤ cur.size := h5
    have hnold := (h.fresh 1 _ b rfl (by show blkOf (ρ 1) = some b; rw [h1]; rfl)).1
    generalize hd : (xs.pmap Subtype.mk hok).toArray = d
    have hdx : d.toList.map Subtype.val = xs := by rw [← hd]; simp [List.map_pmap]
    have hdl : d.size = xs.length := by rw [← hdx]; simp
    have hsx : sortF xs = (pdqF d).toList.map Subtype.val := by rw [sortF_pdq hok, hd]
    obtain ⟨hps, hpm⟩ := pdqF_perm d
    rw [h1, ← hdl]
    refine (sort_calls (enters_of Try.func47 (by kernel_rfl) rfl) cmpA b o cp d w (holds_pairs hdx h2 h6) hblt (by omega)).mono fun r w' hr => ?_
    obtain ⟨rfl, n, os, rfl⟩ := hr
    have hother : ∀ b', b' < w.heap.size → b' ≠ b → (grow (putRow id (Sort.ahead w n) b o (flatK enc2 2 (pdqF d))) os).heap[b']? = w.heap[b']? := fun b' hb' hne => by
      rw [heap_grow_old _ _ (by simpa using hb')]
      unfold putRow mapBlock
      simp only [heap_ahead, Array.getElem?_modify]
      rw [if_neg (fun e => hne e.symm)]
    have hat : (grow (putRow id (Sort.ahead w n) b o (flatK enc2 2 (pdqF d))) os).heap[b]? = some (.cells (putCells id o (flatK enc2 2 (pdqF d)) cur) e (0, 0)) := by
      rw [heap_grow_old _ _ (by simpa using hblt)]
      unfold putRow mapBlock
      simp only [heap_ahead, Array.getElem?_modify, if_true, h2, Option.map_some, onCells]
    have hpl : (sortF xs).length = xs.length := (sortH_pm xs).length_eq
    refine ⟨_, ρ, rfl, fun _ _ => rfl, ?_, ⟨_, rfl, trivial⟩⟩
    show Sx.Ok w0 ρ (hpOf [(1, .row tyFired (sortF xs))]) { tmps := #[], defers := [] } _
    refine row_done h ⟨rfl, rfl, rfl, by simp, fun k hk => hother k (h.oldlt hk) (fun e => hnold (e ▸ hk))⟩ (fun b' hb' hne => hother b' hb' (fun e => hne (by rw [h1, e]; rfl))) ?_
    intro c' _ e1 e2
    refine .inr ⟨b, o, cp, _, e, by rw [e2, h1, hpl], by rw [e1]; exact hat, by rw [hpl]; exact h3, h4, ?_, ?_⟩
    · show o + cp * 2 ≤ (putCells id o (flatK enc2 2 (pdqF d)) cur).size
      unfold putCells
      rw [Array.size_mapIdx]; exact h5
    · intro i y hy
      rw [hsx] at hy
      refine pairs_sorted (by omega) (fun z hz => ?_) i y hy
      have hz2 : z.1 ∈ xs := by rw [← hdx]; exact List.mem_map.2 ⟨z, hpm.mem_iff.1 hz, rfl⟩
      obtain ⟨j, hj⟩ := List.mem_iff_getElem?.1 hz2
      exact (pair_cell h6 hj).2.2

end Go.Proofs.Ytpnmfoojmodnlaa.Wheel
