/-
  slices.Insert of pairs keeps its contract.
-/
import Derived.Test.YtpmfgdedkmddlaaRunqC
import Derived.Test.YtpmfgdedkmddlaaRunqH4
namespace Go.Proofs.Ytpmfgdedkmddlaa.Runq
open Go.Sx
set_option maxRecDepth 100000
set_option maxHeartbeats 4000000
set_option linter.unusedSimpArgs false
set_option linter.unusedVariables false

open Go Go.Proofs Go.Shelf Go.RowKit
theorem rowP_done {w0 : Base} {ρ : Nat → Value} {w w' : World} {a : Act} {xs vs ys : List (Int × Int)} {fr : List SV} {nx : Nat} {v : Value}
    (h : Ok w0 ρ { fr := fr, hp := assoc [(1, .row tyone xs), (2, .row tyone vs)], us := fun n => (assoc [(1, HE.row tyone xs), (2, .row tyone vs)] n).isSome, nx := nx, bk := [] } a w)
    (hb : BelowS w0.old w w') (hold : ∀ b, b < w.heap.size → blkOf (ρ 1) ≠ some b → w'.heap[b]? = w.heap[b]?)
    (hv : ∀ b, blkOf v = some b → blkOf (ρ 1) = some b ∨ (w.heap.size ≤ b ∧ b < w'.heap.size))
    (hrow : (v = .slice none 0 0 ∧ ys = []) ∨ ∃ b o cp cur e, v = .slice (some ⟨b, o, none⟩) ys.length cp ∧ w'.heap[b]? = some (.cells cur e (0, 0)) ∧ ys.length ≤ cp ∧ cp ≤ maxLen ∧ o + cp * 2 ≤ cur.size ∧
      ∀ (i : Nat) (y : Int × Int), ys[i]? = some y → cur[o + i * 2]? = some (.int .i64 y.1) ∧ cur[o + i * 2 + 1]? = some (.int .i64 y.2) ∧ IR .i64 y.1 ∧ IR .i64 y.2) :
    Ok w0 (rho1 ρ v) (hpOf [(1, .row tyone ys), (2, .row tyone vs)]) { tmps := #[], defers := [] } w' := by
  have h12 : ∀ {n : Nat} {he : HE}, (hpOf [(1, .row tyone ys), (2, .row tyone vs)]).hp n = some he → (n = 1 ∧ he = .row tyone ys) ∨ (n = 2 ∧ he = .row tyone vs) := fun {n he} hn => by
    have hn : assoc [(1, HE.row tyone ys), (2, .row tyone vs)] n = some he := hn
    unfold assoc at hn
    cases e : Nat.beq n 1 with
    | true => rw [e] at hn; injection hn with hn; exact .inl ⟨Nat.eq_of_beq_eq_true e, hn.symm⟩
    | false =>
      rw [e] at hn
      simp only [cond_false] at hn
      unfold assoc at hn
      cases e2 : Nat.beq n 2 with
      | true => rw [e2] at hn; injection hn with hn; exact .inr ⟨Nat.eq_of_beq_eq_true e2, hn.symm⟩
      | false => rw [e2] at hn; cases hn
  have b1 : ∀ b, blkOf (ρ 1) = some b → ¬ w0.old b ∧ b < w.heap.size := fun b hb => h.fresh 1 (.row tyone xs) b rfl hb
  have b2 : ∀ b, blkOf (ρ 2) = some b → ¬ w0.old b ∧ b < w.heap.size := fun b hb => h.fresh 2 (.row tyone vs) b rfl hb
  have b12 : ∀ b, blkOf (ρ 1) = some b → blkOf (ρ 2) ≠ some b := fun b h1 h2 => h.apart 1 2 (.row tyone xs) (.row tyone vs) b (by decide) rfl rfl h1 h2
  have hv2 : ∀ b, blkOf v = some b → ¬ w0.old b ∧ b < w'.heap.size := fun b e => by
    rcases hv b e with h1 | ⟨h1, h2⟩
    · exact ⟨(b1 b h1).1, Nat.lt_of_lt_of_le (b1 b h1).2 hb.size⟩
    · exact ⟨fun ho => Nat.lt_irrefl _ (Nat.lt_of_lt_of_le (h.oldlt ho) h1), h2⟩
  have hv12 : ∀ b, blkOf v = some b → blkOf (ρ 2) ≠ some b := fun b e e2 => by
    rcases hv b e with h1 | ⟨h1, h2⟩
    · exact b12 b h1 e2
    · have := (b2 b e2).2
      omega
  have r1 : rho1 ρ v 1 = v := rfl
  have r2 : rho1 ρ v 2 = ρ 2 := rfl
  refine { defers := rfl, below := h.below.trans hb, len := rfl, frame := fun i => trivial, back := fun i => trivial, heap := fun n he hn => ?_, used := fun n he hn => ?_, fresh := fun n he b hn hB => ?_, apart := fun n n' he he' b hne hn hn' hB => ?_ }
  · rcases h12 hn with ⟨rfl, rfl⟩ | ⟨rfl, rfl⟩
    · rcases hrow with ⟨e1, e2⟩ | ⟨b, o, cp, cur, e, g1, g2, g3, g4, g5, g6⟩
      · exact .inl ⟨e1, e2⟩
      · refine .inr ⟨b, o, cp, cur, e, g1, g2, g3, g4, by show o + cp * 2 ≤ cur.size; omega, fun i y hy => ?_⟩
        obtain ⟨q1, q2, q3, q4⟩ := g6 i y hy
        refine ⟨[.int .i64 y.1], [.int .i64 y.2], ?_, ⟨rfl, q3⟩, ⟨rfl, q4⟩⟩
        apply List.ext_getElem?
        intro k
        rw [List.getElem?_take, List.getElem?_drop]
        rcases k with _ | _ | k
        · rw [if_pos (by decide), Array.getElem?_toList]
          show cur[o + i * 2 + 0]? = _
          rw [show o + i * 2 + 0 = o + i * 2 by omega, q1]; rfl
        · rw [if_pos (by decide), Array.getElem?_toList]
          show cur[o + i * 2 + 1]? = _
          rw [q2]; rfl
        · rw [if_neg (by show ¬ (k + 2 < 2); omega)]; rfl
    · rcases h.heap 2 (.row tyone vs) rfl with ⟨e1, e2⟩ | ⟨b, o, cp, cur, e, g1, g2, g3, g4, g5, g6⟩
      · exact .inl ⟨e1, e2⟩
      · have g1 : ρ 2 = .slice (some ⟨b, o, none⟩) vs.length cp := g1
        have g2 : w.heap[b]? = some (.cells cur e (0, 0)) := g2
        have hblt : b < w.heap.size := (Array.getElem?_eq_some_iff.1 g2).1
        exact .inr ⟨b, o, cp, cur, e, g1, (hold b hblt (fun e1 => b12 b e1 (by rw [g1]; rfl))).trans g2, g3, g4, g5, fun i x hx => g6 i x hx⟩
  · rcases h12 hn with ⟨rfl, rfl⟩ | ⟨rfl, rfl⟩
    · rfl
    · rfl
  · rcases h12 hn with ⟨rfl, rfl⟩ | ⟨rfl, rfl⟩
    · exact hv2 b hB
    · have := b2 b hB
      exact ⟨this.1, Nat.lt_of_lt_of_le this.2 hb.size⟩
  · rcases h12 hn with ⟨rfl, rfl⟩ | ⟨rfl, rfl⟩
    · rcases h12 hn' with ⟨rfl, rfl⟩ | ⟨rfl, rfl⟩
      · exact absurd rfl hne
      · exact hv12 b hB
    · rcases h12 hn' with ⟨rfl, rfl⟩ | ⟨rfl, rfl⟩
      · exact fun hB' => hv12 b hB' hB
      · exact absurd rfl hne
theorem insP_args {w0 : Base} {ρ : Nat → Value} {w : World} {vs : Array Value} {xs ys : List (Int × Int)} {i : Int} {nx : Nat}
    (h : Ok w0 ρ { fr := [.one (.row 1), .one (.d I64 i), .one (.row 2)], hp := assoc [(1, .row tyone xs), (2, .row tyone ys)], us := fun n => (assoc [(1, HE.row tyone xs), (2, .row tyone ys)] n).isSome, nx := nx, bk := [] } { tmps := vs, defers := [] } w) :
    vs = #[ρ 1, .int .i64 i, ρ 2] ∧ IR .i64 i := by
  have hl : vs.size = 3 := h.len.symm
  have h1 := (List.cons.inj (SVc.one1 (p := .row 1) rfl (by simp) (h.frame 0)).2.1).1
  have h2 : [vs.getD 1 undef] = [Value.int .i64 i] ∧ IR .i64 i := SVc.one1 (p := .d I64 i) rfl (by simp) (h.frame 1)
  have h3 := (List.cons.inj (SVc.one1 (p := .row 2) rfl (by simp) (h.frame 2)).2.1).1
  obtain ⟨l⟩ := vs
  match l, hl with
  | [v, v', v''], _ =>
    have e1 : v = ρ 1 := h1
    have e2 : v' = .int .i64 i := (List.cons.inj h2.1).1
    have e3 : v'' = ρ 2 := h3
    rw [e1, e2, e3]
    exact ⟨rfl, h2.2⟩
def encP : List (Int × Int) → List Value
  | [] => []
  | p :: r => .int .i64 p.1 :: .int .i64 p.2 :: encP r
theorem encP_len : ∀ l : List (Int × Int), (encP l).length = l.length * 2
  | [] => rfl
  | p :: r => by
    show (encP r).length + 1 + 1 = _
    rw [encP_len r, List.length_cons]; omega
theorem encP_app : ∀ l m : List (Int × Int), encP (l ++ m) = encP l ++ encP m
  | [], m => rfl
  | p :: r, m => by
    show _ :: _ :: encP (r ++ m) = _
    rw [encP_app r m]; rfl
theorem encP_take : ∀ (l : List (Int × Int)) (i : Nat), encP (l.take i) = (encP l).take (i * 2)
  | [], i => by simp [encP]
  | p :: r, 0 => rfl
  | p :: r, i + 1 => by
    rw [show (i + 1) * 2 = i * 2 + 1 + 1 by omega]
    show _ :: _ :: encP (r.take i) = _
    rw [encP_take r i]; rfl
theorem encP_drop : ∀ (l : List (Int × Int)) (i : Nat), encP (l.drop i) = (encP l).drop (i * 2)
  | [], i => by simp [encP]
  | p :: r, 0 => rfl
  | p :: r, i + 1 => by
    rw [show (i + 1) * 2 = i * 2 + 1 + 1 by omega]
    show encP (r.drop i) = _
    rw [encP_drop r i]; rfl
theorem encP_one : ∀ {l : List (Int × Int)}, ∀ v ∈ encP l, v.oneCell' = true
  | p :: r, v, h => by
    rcases List.mem_cons.1 h with rfl | h
    · rfl
    · rcases List.mem_cons.1 h with rfl | h
      · rfl
      · exact encP_one v h
theorem encP_at1 : ∀ {l : List (Int × Int)} {i : Nat} {p : Int × Int}, l[i]? = some p → (encP l)[i * 2]? = some (.int .i64 p.1) ∧ (encP l)[i * 2 + 1]? = some (.int .i64 p.2)
  | q :: r, 0, p, h => by
    injection h with h
    subst h
    exact ⟨rfl, rfl⟩
  | q :: r, i + 1, p, h => by
    have h : r[i]? = some p := h
    have := encP_at1 h
    rw [show (i + 1) * 2 = i * 2 + 1 + 1 by omega]
    exact this
theorem encP_cur {l : List (Int × Int)} {cur : Array Value} {o : Nat} (h : ∀ (i : Nat) (y : Int × Int), l[i]? = some y → cur[o + i * 2]? = some (.int .i64 y.1) ∧ cur[o + i * 2 + 1]? = some (.int .i64 y.2)) {k : Nat} {v : Value} (hk : (encP l)[k]? = some v) : cur[o + k]? = some v := by
  have hl := (List.getElem?_eq_some_iff.1 hk).1
  rw [encP_len] at hl
  have hi : l[k / 2]? = some (l[k / 2]'(by omega)) := List.getElem?_eq_getElem (by omega)
  obtain ⟨a1, a2⟩ := encP_at1 hi
  obtain ⟨b1, b2⟩ := h _ _ hi
  rcases Nat.mod_two_eq_zero_or_one k with e | e
  · have ek : k / 2 * 2 = k := by omega
    rw [ek] at a1 b1
    rw [b1, ← a1, hk]
  · have ek : k / 2 * 2 + 1 = k := by omega
    rw [ek] at a2
    rw [show o + k / 2 * 2 + 1 = o + k by omega] at b2
    rw [b2, ← a2, hk]
theorem rowP_get {S : Nat → Prop} {w : World} {cur : Array Value} {o : Nat} {xs : List (Int × Int)} (h : ∀ (i : Nat) (x : Int × Int), xs[i]? = some x → Rd S w tyone ((cur.toList.drop (o + i * 2)).take 2) x) (i : Nat) (x : Int × Int) (hi : xs[i]? = some x) :
    cur[o + i * 2]? = some (.int .i64 x.1) ∧ cur[o + i * 2 + 1]? = some (.int .i64 x.2) ∧ IR .i64 x.1 ∧ IR .i64 x.2 := by
  obtain ⟨l, m, h2, ⟨rfl, h3⟩, ⟨rfl, h4⟩⟩ := h i x hi
  refine ⟨?_, ?_, h3, h4⟩
  · have h5 : ((cur.toList.drop (o + i * 2)).take 2)[0]? = some (.int .i64 x.1) := by rw [h2]; rfl
    rw [List.getElem?_take, if_pos (by omega), List.getElem?_drop] at h5
    simpa using h5
  · have h5 : ((cur.toList.drop (o + i * 2)).take 2)[1]? = some (.int .i64 x.2) := by rw [h2]; rfl
    rw [List.getElem?_take, if_pos (by omega), List.getElem?_drop] at h5
    simpa using h5
theorem encP_ins {xs vs : List (Int × Int)} {i : Int} : encP (insA xs i vs) = (encP xs).take (i.toNat * 2) ++ (encP vs ++ (encP xs).drop (i.toNat * 2)) := by
  unfold insA
  rw [encP_app, encP_app, encP_take, encP_drop]
theorem encP_get {xs vs : List (Int × Int)} {i : Int} (h0 : 0 ≤ i) (h1 : i ≤ xs.length) (hv : vs.length = 1) (j : Nat) :
    (encP (insA xs i vs))[j]? = if j < i.toNat * 2 then (encP xs)[j]? else if j < i.toNat * 2 + 2 then (encP vs)[j - i.toNat * 2]? else (encP xs)[j - 2]? := by
  rw [encP_ins]
  have hx := encP_len xs
  have hvl : (encP vs).length = 2 := by rw [encP_len, hv]
  have hl : ((encP xs).take (i.toNat * 2)).length = i.toNat * 2 := by rw [List.length_take]; omega
  by_cases h : j < i.toNat * 2
  · rw [if_pos h, List.getElem?_append_left (by omega), List.getElem?_take, if_pos h]
  · rw [if_neg h, List.getElem?_append_right (by omega), hl]
    by_cases h2 : j < i.toNat * 2 + 2
    · rw [if_pos h2, List.getElem?_append_left (by omega)]
    · rw [if_neg h2, List.getElem?_append_right (by omega), List.getElem?_drop, hvl]
      congr 1
      omega
theorem mem_ins {xs vs : List (Int × Int)} {i : Int} {j : Nat} {y : Int × Int} (h : (insA xs i vs)[j]? = some y) : y ∈ xs ∨ y ∈ vs := by
  have h := List.mem_of_getElem? h
  unfold insA at h
  rcases List.mem_append.1 h with h | h
  · exact .inl (List.mem_of_mem_take h)
  · rcases List.mem_append.1 h with h | h
    · exact .inr h
    · exact .inl (List.mem_of_mem_drop h)
theorem row_of_enc {l : List (Int × Int)} {cur : Array Value} {o : Nat} (h : ∀ (k : Nat) (u : Value), (encP l)[k]? = some u → cur[o + k]? = some u) (hi : ∀ y ∈ l, IR .i64 y.1 ∧ IR .i64 y.2) (j : Nat) (y : Int × Int) (hy : l[j]? = some y) :
    cur[o + j * 2]? = some (.int .i64 y.1) ∧ cur[o + j * 2 + 1]? = some (.int .i64 y.2) ∧ IR .i64 y.1 ∧ IR .i64 y.2 := by
  obtain ⟨a1, a2⟩ := encP_at1 hy
  have b2 := h _ _ a2
  rw [← Nat.add_assoc] at b2
  exact ⟨h _ _ a1, b2, hi y (List.mem_of_getElem? hy)⟩
theorem c_inso : PrcOkO Try.prog 35 pInso 1 := by
  refine ⟨⟨Try.f35, Try.func35, by kernel_rfl, by kernel_rfl⟩, ?_⟩
  intro w0 ρ w args (x : List (Int × Int) × Int × List (Int × Int) × Unit) h hp _
  obtain ⟨xs, i, vs, u⟩ := x
  have h : Sx.Ok w0 ρ { fr := [.one (.row 1), .one (.d I64 i), .one (.row 2)], hp := assoc [(1, .row tyone xs), (2, .row tyone vs)], us := fun n => (assoc [(1, HE.row tyone xs), (2, .row tyone vs)] n).isSome, nx := 3, bk := [] } { tmps := args, defers := [] } w := h
  obtain ⟨ha, hir⟩ := insP_args h
  subst ha
  obtain ⟨hp, ⟨i0, i1⟩, hvl⟩ : (xs.length + 1) * 16 ≤ 140737488355328 ∧ ((0 : Int) ≤ i ∧ i ≤ (xs.length : Int)) ∧ vs.length = 1 := hp
  have hlen := insA_len (xs := xs) (vs := vs) i0 i1
  have hget := encP_get (xs := xs) (vs := vs) i0 i1 hvl
  rw [hvl] at hlen
  have hLl : (encP (insA xs i vs)).length = (xs.length + 1) * 2 := by rw [encP_len, hlen]
  have fin : ∀ (v : Value) (w' : World), BelowS w0.old w w' → (∀ b, b < w.heap.size → blkOf (ρ 1) ≠ some b → w'.heap[b]? = w.heap[b]?) → (∀ b, blkOf v = some b → blkOf (ρ 1) = some b ∨ (w.heap.size ≤ b ∧ b < w'.heap.size)) →
      (∃ b o cp cur e, v = .slice (some ⟨b, o, none⟩) (insA xs i vs).length cp ∧ w'.heap[b]? = some (.cells cur e (0, 0)) ∧ (insA xs i vs).length ≤ cp ∧ cp ≤ maxLen ∧ o + cp * 2 ≤ cur.size ∧
        ∀ (k : Nat) (y : Value), (encP (insA xs i vs))[k]? = some y → cur[o + k]? = some y) →
      (∀ y ∈ xs, IR .i64 y.1 ∧ IR .i64 y.2) → (∀ y ∈ vs, IR .i64 y.1 ∧ IR .i64 y.2) →
      ∃ ρ2, Go.Ending.returned v = .returned (ρ2 1) ∧ (∀ n, n ≠ 1 → trkd (trks (pInso.inv (xs, i, vs, u)).heap) n = true → ρ2 n = ρ n) ∧ (ρ2 1).oneCell' = true ∧ Sx.Ok w0 ρ2 (hpOf (pInso.inv (pInso.f (xs, i, vs, u)).1).heap) { tmps := #[], defers := [] } w' := fun v w' q1 q2 q3 q4 q5 q6 =>
    ⟨rho1 ρ v, rfl, fun n hn _ => if_neg hn, by obtain ⟨b, o, cp, cur, e, g, _⟩ := q4; show v.oneCell' = true; rw [g]; rfl,
      rowP_done h q1 q2 q3 (.inr (by
        obtain ⟨b, o, cp, cur, e, g1, g2, g3, g4, g5, g6⟩ := q4
        exact ⟨b, o, cp, cur, e, g1, g2, g3, g4, g5, row_of_enc g6 (fun y hy => by
          obtain ⟨j, hj⟩ := List.mem_iff_getElem?.1 hy
          rcases mem_ins hj with m | m
          · exact q5 y m
          · exact q6 y m)⟩))⟩
  have ei : i = ((i.toNat : Nat) : Int) := by omega
  have hmax : (maxLen : Nat) ≤ 9223372036854775807 := by decide
  have hz2 : (Value.agg #[.int .i64 0, .int .i64 0]).cells.size = 2 := by kernel_rfl
  rcases h.heap 2 (.row tyone vs) rfl with ⟨_, e⟩ | ⟨b2, o2, cp2, cur2, e2, k1, k2, k3, k4, k5, k6⟩
  · rw [e] at hvl; cases hvl
  have j1 : ρ 2 = .slice (some ⟨b2, o2, none⟩) 1 cp2 := by rw [← hvl]; exact k1
  clear k1
  have k2 : w.heap[b2]? = some (.cells cur2 e2 (0, 0)) := k2
  have k5 : o2 + cp2 * 2 ≤ cur2.size := k5
  have k3 : vs.length ≤ cp2 := k3
  have k7 := rowP_get k6
  have k8 : ∀ {k : Nat} {v : Value}, (encP vs)[k]? = some v → cur2[o2 + k]? = some v := encP_cur fun i y hy => ⟨(k7 i y hy).1, (k7 i y hy).2.1⟩
  have k9 : ∀ y ∈ vs, IR .i64 y.1 ∧ IR .i64 y.2 := fun y hy => by
    obtain ⟨j, hj⟩ := List.mem_iff_getElem?.1 hy
    exact (k7 j y hj).2.2
  have hvs : ∀ j v, (encP vs)[j]? = some v → w.cell? ⟨b2, o2 + j, none⟩ = some v := fun j v hj => get_old (w' := w) k2 (k8 hj)
  have hb2lt : b2 < w.heap.size := (Array.getElem?_eq_some_iff.1 k2).1
  have hvl' : (encP vs).length = 2 := by rw [encP_len, hvl]
  rcases h.heap 1 (.row tyone xs) rfl with ⟨e, rfl⟩ | ⟨b, o, cp, cur, e, h1, h2, h3, h4, h5, h6⟩
  · have e0 : ρ 1 = .slice none 0 0 := e
    clear e
    have i1' : i ≤ 0 := by simpa using i1
    have hi : i = 0 := by omega
    subst hi
    rw [e0, j1]
    refine (ins2_end_grow none 0 0 b2 o2 cp2 [] (encP vs) w (by omega) (by omega) (by omega) rfl hvl' (fun _ => rfl) (fun _ e => by cases e) hvs encP_one).mono fun r w' hr => ?_
    obtain ⟨rfl, rfl⟩ := hr
    have hge := grownCap_ge w (0 + 1) 0 94
    have hcm := grownCap_le_maxLen w (0 + 1) 0 94 (by decide)
    generalize grownCap w (0 + 1) 0 94 = G at *
    refine fin _ _ ⟨rfl, rfl, rfl, by simp [World.alloc], fun q hq => al_old w.drew _ (h.oldlt hq)⟩ (fun q hq _ => al_old w.drew _ hq) (fun q hq => .inr ?_) ⟨w.heap.size, 0, G, _, _, by rw [hlen]; rfl, al_new w.drew _, by rw [hlen]; exact hge, hcm, ?_, fun j y hy => ?_⟩ (fun _ hy => by cases hy) k9
    · injection hq with hq
      subst hq
      exact ⟨Nat.le_refl _, by simp [World.alloc]⟩
    · simp only [List.nil_append, Array.size_append, List.size_toArray, hvl', size_zeroCells, hz2]
      omega
    · rw [hget] at hy
      rw [if_neg (by simp)] at hy
      have hj : j < 2 := by
        rcases Nat.lt_or_ge j 2 with g | g
        · exact g
        · rw [if_neg (by simp; omega)] at hy
          cases hy
      rw [if_pos (by simp; omega)] at hy
      have hy : (encP vs)[j]? = some y := hy
      simp only [List.nil_append, Nat.zero_add]
      rw [Array.getElem?_append_left (by simp [hvl']; omega)]
      simpa using hy
  have j2 : ρ 1 = .slice (some ⟨b, o, none⟩) xs.length cp := h1
  clear h1
  have g2 : w.heap[b]? = some (.cells cur e (0, 0)) := h2
  have g3 : xs.length ≤ cp := h3
  have g5 : o + cp * 2 ≤ cur.size := h5
  have g7 := rowP_get h6
  have g8 : ∀ {k : Nat} {v : Value}, (encP xs)[k]? = some v → cur[o + k]? = some v := encP_cur fun i y hy => ⟨(g7 i y hy).1, (g7 i y hy).2.1⟩
  have g9 : ∀ y ∈ xs, IR .i64 y.1 ∧ IR .i64 y.2 := fun y hy => by
    obtain ⟨j, hj⟩ := List.mem_iff_getElem?.1 hy
    exact (g7 j y hj).2.2
  have hblt : b < w.heap.size := (Array.getElem?_eq_some_iff.1 g2).1
  have hbk : blkOf (ρ 1) = some b := by rw [j2]; rfl
  have hnold := (h.fresh 1 _ b rfl hbk).1
  have hne : b2 ≠ b := fun e1 => h.apart 1 2 _ _ b (by decide) rfl rfl hbk (by show blkOf (ρ 2) = some b; rw [j1, e1]; rfl)
  have hcs : ∀ j v, (encP xs)[j]? = some v → w.cell? ⟨b, o + j, none⟩ = some v := fun j v hj => get_old (w' := w) g2 (g8 hj)
  have hsome : ∀ j, j < cp * 2 → (w.cell? ⟨b, o + j, none⟩).isSome = true := fun j hj => by
    rw [get_old (w' := w) g2 (Array.getElem?_eq_getElem (show o + j < cur.size by omega))]; rfl
  have hfz : ∀ j, w.frozen? ⟨b, o + j, none⟩ = false := fun j => by simp [World.frozen?, g2]
  have hold : ∀ (w' : World), (∀ k, k ≠ b → w'.heap[k]? = w.heap[k]?) → ∀ k, k < w.heap.size → blkOf (ρ 1) ≠ some k → w'.heap[k]? = w.heap[k]? := fun w' hw k _ hk => hw k (fun e1 => hk (by rw [e1]; exact hbk))
  have hxl : (encP xs).length = xs.length * 2 := encP_len _
  by_cases hroom : xs.length + 1 ≤ cp
  · by_cases hi : i.toNat = xs.length
    · have ei2 : i = (xs.length : Int) := by omega
      rw [j2, j1, ei2]
      refine (ins2_end_room b o xs.length cp b2 o2 cp2 (encP vs) w hroom (by omega) hvl' (fun j hj => by have := hsome (xs.length * 2 + j) (by omega); rwa [← Nat.add_assoc] at this) (fun j _ => by have := hfz (xs.length * 2 + j); rwa [← Nat.add_assoc] at this) hvs encP_one).mono fun r w' hr => ?_
      obtain ⟨rfl, rfl⟩ := hr
      obtain ⟨a1, a2, a3, a4, a5⟩ := setC_keep b (encP vs) (o + xs.length * 2) w
      rw [← ei2]
      refine fin _ _ ⟨a1, a2, a3, by omega, fun q hq => a5 q (fun e1 => hnold (e1 ▸ hq))⟩ (hold _ a5) (fun q hq => .inl ?_) ⟨b, o, cp, _, e, by rw [hlen], heap_setL b e _ _ _ _ g2, by omega, h4, by rw [setL_size]; omega, fun j y hy => ?_⟩ g9 k9
      · rw [hbk]; exact hq
      · rw [hget] at hy
        rw [setL_get _ _ _ _ (by rw [hvl']; omega), hvl']
        by_cases h7 : j < i.toNat * 2
        · rw [if_pos h7] at hy
          rw [if_neg (by omega)]
          exact g8 hy
        · rw [if_neg h7] at hy
          by_cases h8 : j < i.toNat * 2 + 2
          · rw [if_pos h8] at hy
            rw [if_pos (by omega), show o + j - (o + xs.length * 2) = j - i.toNat * 2 by omega, hy]
          · rw [if_neg h8, List.getElem?_eq_none (by omega)] at hy
            cases hy
    · have hi2 : i.toNat < xs.length := by omega
      have hsh : w.shape? b2 = some (e2, cur2.size) := by simp [World.shape?, k2]
      have hsh2 : w.shape? b = some (e, cur.size) := by simp [World.shape?, g2]
      have key := ins2_shift b o xs.length cp i.toNat b2 o2 cp2 (encP xs) (encP vs) w hi2 hroom (by omega) hne hxl hvl' hcs (fun j hj => hsome j (by omega)) hfz hvs encP_one encP_one
        e2 e cur2.size cur.size hsh hsh2 (by omega) (by simp [World.frozen?, k2]) (by simp [World.frozen?, k2])
      rw [← ei] at key
      rw [j2, j1]
      refine key.mono fun r w' hr => ?_
      obtain ⟨rfl, rfl⟩ := hr
      obtain ⟨a1, a2, a3, a4, a5⟩ := setC_keep b ((encP xs).drop (i.toNat * 2)) (o + (i.toNat + 1) * 2) w.drew
      obtain ⟨c1, c2, c3, c4, c5⟩ := setC_keep b (encP vs) (o + i.toNat * 2) (w.drew.setCells b (o + (i.toNat + 1) * 2) ((encP xs).drop (i.toNat * 2)))
      have hdl : ((encP xs).drop (i.toNat * 2)).length = xs.length * 2 - i.toNat * 2 := by rw [List.length_drop, hxl]
      have hw' : ∀ k, k ≠ b → ((w.drew.setCells b (o + (i.toNat + 1) * 2) ((encP xs).drop (i.toNat * 2))).setCells b (o + i.toNat * 2) (encP vs)).heap[k]? = w.heap[k]? := fun k hk => (c5 k hk).trans (a5 k hk)
      refine fin _ _ ⟨c1.trans a1, c2.trans a2, c3.trans a3, by rw [c4, a4]; exact Nat.le_refl _, fun q hq => hw' q (fun e1 => hnold (e1 ▸ hq))⟩ (hold _ hw') (fun q hq => .inl ?_)
        ⟨b, o, cp, _, e, by rw [hlen], heap_setL b e _ _ _ _ (heap_setL b e _ _ _ w.drew g2), by omega, h4, by rw [setL_size, setL_size]; omega, fun j y hy => ?_⟩ g9 k9
      · rw [hbk]; exact hq
      · rw [hget] at hy
        rw [setL_get _ _ _ _ (by rw [hvl', setL_size]; omega), hvl', setL_get _ _ _ _ (by rw [hdl]; omega), hdl]
        by_cases h7 : j < i.toNat * 2
        · rw [if_pos h7] at hy
          rw [if_neg (by omega), if_neg (by omega)]
          exact g8 hy
        · rw [if_neg h7] at hy
          by_cases h8 : j < i.toNat * 2 + 2
          · rw [if_pos h8] at hy
            rw [if_pos (by omega), show o + j - (o + i.toNat * 2) = j - i.toNat * 2 by omega, hy]
          · rw [if_neg h8] at hy
            have hjl := (List.getElem?_eq_some_iff.1 hy).1
            rw [if_neg (by omega), if_pos (by omega), List.getElem?_drop, show i.toNat * 2 + (o + j - (o + (i.toNat + 1) * 2)) = j - 2 by omega, hy]
  · have hge := grownCap_ge w (xs.length + 1) cp 94
    have hcm := grownCap_le_maxLen w (xs.length + 1) cp 94 (by show xs.length + 1 ≤ maxLen; have : 17592186044416 ≤ maxLen := by decide
                                                               omega)
    by_cases hi : i.toNat = xs.length
    · have ei2 : i = (xs.length : Int) := by omega
      rw [j2, j1, ei2]
      refine (ins2_end_grow (some ⟨b, o, none⟩) xs.length cp b2 o2 cp2 (encP xs) (encP vs) w g3 (by omega) (by omega) hxl hvl' (fun e1 => by cases e1) (fun a e1 j v hj => by
        injection e1 with e1
        subst e1
        rw [Addr.add_lit]
        exact hcs j v hj) hvs encP_one).mono fun r w' hr => ?_
      obtain ⟨rfl, rfl⟩ := hr
      generalize grownCap w (xs.length + 1) cp 94 = G at *
      rw [← ei2]
      refine fin _ _ ⟨rfl, rfl, rfl, by simp [World.alloc], fun q hq => al_old w.drew _ (h.oldlt hq)⟩ (fun q hq _ => al_old w.drew _ hq) (fun q hq => .inr ?_) ⟨w.heap.size, 0, G, _, _, by rw [hlen], al_new w.drew _, by rw [hlen]; exact hge, hcm, ?_, fun j y hy => ?_⟩ g9 k9
      · injection hq with hq
        subst hq
        exact ⟨Nat.le_refl _, by simp [World.alloc]⟩
      · simp only [Array.size_append, List.size_toArray, List.length_append, hxl, hvl', size_zeroCells, hz2]
        omega
      · rw [hget] at hy
        have hjl : j < (xs.length + 1) * 2 := by rw [← hLl]; exact (List.getElem?_eq_some_iff.1 (by rw [hget]; exact hy)).1
        have hin : (encP xs ++ encP vs)[j]? = some y := by
          by_cases h7 : j < i.toNat * 2
          · rw [if_pos h7] at hy
            rw [List.getElem?_append_left (by omega), hy]
          · rw [if_neg h7, if_pos (by omega)] at hy
            rw [List.getElem?_append_right (by omega), hxl, show j - xs.length * 2 = j - i.toNat * 2 by omega, hy]
        rw [Nat.zero_add, Array.getElem?_append_left (by simp [hxl, hvl']; omega)]
        simpa using hin
    · have hi2 : i.toNat < xs.length := by omega
      have key := ins2_grow b o xs.length cp i.toNat b2 o2 cp2 (encP xs) (encP vs) w hi2 g3 (by omega) (by omega) hxl hvl' hcs hvs encP_one encP_one
      rw [← ei] at key
      rw [j2, j1]
      refine key.mono fun r w' hr => ?_
      obtain ⟨rfl, rfl⟩ := hr
      generalize grownCap w (xs.length + 1) cp 94 = G at *
      generalize hC : ((encP xs).take (i.toNat * 2)).toArray ++ Builtin.zeroCells (Value.agg #[.int .i64 0, .int .i64 0]).cells (xs.length + 1 - i.toNat) ++ Builtin.zeroCells (Value.agg #[.int .i64 0, .int .i64 0]).cells (G - (xs.length + 1)) = C
      have hCl : C.size = G * 2 := by
        rw [← hC]
        simp only [Array.size_append, List.size_toArray, List.length_take, hxl, size_zeroCells, hz2]
        omega
      have hCget : ∀ j, j < i.toNat * 2 → C[j]? = (encP xs)[j]? := fun j hj => by
        rw [← hC, Array.append_assoc, Array.getElem?_append_left (by simp [hxl]; omega)]
        simp [List.getElem?_take, hj]
      have hdl : ((encP xs).drop (i.toNat * 2)).length = xs.length * 2 - i.toNat * 2 := by rw [List.length_drop, hxl]
      have hW0 : ((w.alloc (.cells C 94)).drew).heap[w.heap.size]? = some (.cells C 94 (0, 0)) := al_new w _
      have hW1 := heap_setL w.heap.size 94 (encP vs) (i.toNat * 2) C _ hW0
      have hW2 := heap_setL w.heap.size 94 ((encP xs).drop (i.toNat * 2)) ((i.toNat + 1) * 2) _ (((w.alloc (.cells C 94)).drew.setCells w.heap.size (i.toNat * 2) (encP vs)).drew) hW1
      obtain ⟨a1, a2, a3, a4, a5⟩ := setC_keep w.heap.size (encP vs) (i.toNat * 2) (w.alloc (.cells C 94)).drew
      obtain ⟨c1, c2, c3, c4, c5⟩ := setC_keep w.heap.size ((encP xs).drop (i.toNat * 2)) ((i.toNat + 1) * 2) (((w.alloc (.cells C 94)).drew.setCells w.heap.size (i.toNat * 2) (encP vs)).drew)
      have hsz : (w.alloc (.cells C 94)).heap.size = w.heap.size + 1 := by simp only [World.alloc, Array.size_push]
      have hwo : ∀ k, k < w.heap.size → ((((w.alloc (.cells C 94)).drew.setCells w.heap.size (i.toNat * 2) (encP vs)).drew).setCells w.heap.size ((i.toNat + 1) * 2) ((encP xs).drop (i.toNat * 2))).heap[k]? = w.heap[k]? := fun k hk =>
        (c5 k (by omega)).trans ((a5 k (by omega)).trans (al_old w _ hk))
      have hsz2 : ((((w.alloc (.cells C 94)).drew.setCells w.heap.size (i.toNat * 2) (encP vs)).drew).setCells w.heap.size ((i.toNat + 1) * 2) ((encP xs).drop (i.toNat * 2))).heap.size = w.heap.size + 1 := c4.trans (a4.trans hsz)
      refine fin _ _ ⟨c1.trans a1, c2.trans a2, c3.trans a3, by omega, fun q hq => hwo q (h.oldlt hq)⟩ (fun q hq _ => hwo q hq) (fun q hq => .inr ?_) ⟨w.heap.size, 0, G, _, _, by rw [hlen], hW2, by omega, hcm, by rw [setL_size, setL_size, hCl]; omega, fun j y hy => ?_⟩ g9 k9
      · injection hq with hq
        subst hq
        exact ⟨Nat.le_refl _, Nat.lt_of_lt_of_eq (Nat.lt_succ_self _) hsz2.symm⟩
      · rw [hget] at hy
        rw [Nat.zero_add, setL_get _ _ _ _ (by rw [setL_size, hdl, hCl]; omega), hdl, setL_get _ _ _ _ (by rw [hvl', hCl]; omega), hvl']
        by_cases h7 : j < i.toNat * 2
        · rw [if_pos h7] at hy
          rw [if_neg (by omega), if_neg (by omega), hCget j h7, hy]
        · rw [if_neg h7] at hy
          by_cases h8 : j < i.toNat * 2 + 2
          · rw [if_pos h8] at hy
            rw [if_neg (by omega), if_pos (by omega), hy]
          · rw [if_neg h8] at hy
            have hjl := (List.getElem?_eq_some_iff.1 hy).1
            rw [if_pos (by omega), List.getElem?_drop, show i.toNat * 2 + (j - (i.toNat + 1) * 2) = j - 2 by omega, hy]

end Go.Proofs.Ytpmfgdedkmddlaa.Runq
