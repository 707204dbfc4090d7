/-
  WheelPlays: a tick, many ticks, one thing done.
-/
import Derived.Test.YtpnmfoojmodnlaaWheelP3
namespace Go.Proofs.Ytpnmfoojmodnlaa.Wheel
open Go.Sx
set_option maxRecDepth 100000
set_option maxHeartbeats 1000000
set_option linter.unusedSimpArgs false
set_option linter.unusedVariables false

theorem mget_mem {m : SM} (hn : (m.map Prod.fst).Nodup) {a b : Int} : (a, b) ∈ m ↔ mget? I64 m a = some b := by
  induction m with
  | nil => simp [mget?]
  | cons e r ih =>
    rw [List.map_cons, List.nodup_cons] at hn
    unfold mget?
    by_cases h : e.1 = a
    · simp only [h, decide_true, cond_true, List.mem_cons, Option.some.injEq]
      constructor
      · rintro (g | g)
        · rw [← g]
        · exact absurd (List.mem_map.2 ⟨_, g, h.symm⟩) hn.1
      · intro g
        exact .inl (Prod.ext h.symm g.symm)
    · simp only [h, decide_false, cond_false, List.mem_cons]
      rw [← ih hn.2]
      constructor
      · rintro (g | g)
        · exact absurd (by rw [← g]) h
        · exact g
      · exact .inr
theorem has_val {m : SM} (hn : (m.map Prod.fst).Nodup) {a b : Int} : (mhas I64 m a = true ∧ (mval I64 m a : Int) = b) ↔ (a, b) ∈ m := by
  rw [mget_mem hn]
  unfold mhas mval
  cases h : mget? I64 m a with
  | none => simp
  | some v => simp
/- Who is left while some have fired. -/
def leftM (P : SM) (ids : List Int) : SM := P.filter fun e => !decide (e.1 ∈ ids)
theorem mem_left {P : SM} {ids : List Int} {e : Int × Int} : e ∈ leftM P ids ↔ e ∈ P ∧ e.1 ∉ ids := by unfold leftM; rw [List.mem_filter]; simp
theorem left_nodup {P : SM} (hn : (P.map Prod.fst).Nodup) (ids : List Int) : ((leftM P ids).map Prod.fst).Nodup := (List.filter_sublist.map _).nodup hn
theorem left_snoc {P : SM} (hn : (P.map Prod.fst).Nodup) {ids : List Int} {k : Int} : mdel I64 (leftM P ids) k = leftM P (ids ++ [k]) := by
  rw [del_filter (left_nodup hn ids)]
  unfold leftM
  rw [List.filter_filter]
  congr 1
  funext e
  by_cases h1 : e.1 = k <;> by_cases h2 : e.1 ∈ ids <;> simp [h1, h2]
theorem burn_fold {P : SM} {n : Int} (hn : (P.map Prod.fst).Nodup) : ∀ {l : List TI2} {ids : List Int}, (∀ t ∈ l, t.1 = n) → ids.Nodup → (∀ i ∈ ids, (i, n) ∈ P) →
    ∃ ids', l.foldl fireW (leftM P ids, ids) = (leftM P ids', ids') ∧ ids'.Nodup ∧ (∀ i ∈ ids', (i, n) ∈ P) ∧ (∀ i ∈ ids, i ∈ ids') ∧ ∀ t ∈ l, (t.2, n) ∈ P → t.2 ∈ ids'
  | [], ids, _, h1, h2 => ⟨ids, rfl, h1, h2, fun _ h => h, fun t ht => by cases ht⟩
  | t :: l, ids, ht, h1, h2 => by
    have ht0 := ht t (List.mem_cons_self ..)
    have hs : l.foldl fireW (fireW (leftM P ids, ids) t) = (t :: l).foldl fireW (leftM P ids, ids) := rfl
    by_cases g : mhas I64 (leftM P ids) t.2 = true ∧ (mval I64 (leftM P ids) t.2 : Int) = t.1
    · have e : fireW (leftM P ids, ids) t = (leftM P (ids ++ [t.2]), ids ++ [t.2]) := by
        unfold fireW
        rw [if_pos g, left_snoc hn]
      have hm := mem_left.1 ((has_val (left_nodup hn ids)).1 g)
      rw [ht0] at hm
      obtain ⟨ids', b1, b2, b3, b4, b5⟩ := burn_fold (l := l) (ids := ids ++ [t.2]) hn (fun u hu => ht u (List.mem_cons_of_mem _ hu))
        (by
          rw [List.nodup_append]
          exact ⟨h1, by simp, fun a ha b hb => by
            rw [List.mem_singleton.1 hb]
            exact fun e => hm.2 (e ▸ ha)⟩)
        (fun i hi => by
          rcases List.mem_append.1 hi with hi | hi
          · exact h2 i hi
          · rw [List.mem_singleton.1 hi]; exact hm.1)
      rw [← hs, e]
      refine ⟨ids', b1, b2, b3, fun i hi => b4 i (List.mem_append_left _ hi), fun u hu hp => ?_⟩
      rcases List.mem_cons.1 hu with rfl | hu
      · exact b4 _ (List.mem_append_right _ (List.mem_singleton.2 rfl))
      · exact b5 u hu hp
    · have e : fireW (leftM P ids, ids) t = (leftM P ids, ids) := by unfold fireW; rw [if_neg g]
      obtain ⟨ids', b1, b2, b3, b4, b5⟩ := burn_fold (l := l) (ids := ids) hn (fun u hu => ht u (List.mem_cons_of_mem _ hu)) h1 h2
      rw [← hs, e]
      refine ⟨ids', b1, b2, b3, b4, fun u hu hp => ?_⟩
      rcases List.mem_cons.1 hu with rfl | hu
      · by_cases hi : u.2 ∈ ids
        · exact b4 _ hi
        · exact absurd ((has_val (left_nodup hn ids)).2 (mem_left.2 ⟨by rw [ht0]; exact hp, hi⟩)) g
      · exact b5 u hu hp
theorem burn_ok {P : SM} {n : Int} {l : List TI2} (hn : (P.map Prod.fst).Nodup) (hl : ∀ t ∈ l, t.1 = n) (hc : ∀ i, (i, n) ∈ P → (n, i) ∈ l) (hge : ∀ e ∈ P, n ≤ e.2) :
    (l.foldl fireW (P, [])).1 = restK P n ∧ (l.foldl fireW (P, [])).2.Nodup ∧ (sortI (l.foldl fireW (P, [])).2).map (fun i => (n, i)) = dueK P n ∧ (l.foldl fireW (P, [])).2.length = (dueL P n).length := by
  have e0 : leftM P [] = P := by
    unfold leftM
    rw [List.filter_eq_self]
    intro x _; simp
  obtain ⟨ids, b1, b2, b3, _, b5⟩ := burn_fold (l := l) (ids := []) hn hl List.nodup_nil (fun i hi => by cases hi)
  rw [e0] at b1
  rw [b1]
  have hmem : ∀ i, i ∈ ids ↔ (i, n) ∈ P := fun i => ⟨b3 i, fun h => b5 (n, i) (hc i h) h⟩
  have hdp : (ids.map fun i => (n, i)).Perm (dueL P n) := by
    rw [List.perm_ext_iff_of_nodup]
    · intro t
      rw [List.mem_map, mem_dueL]
      constructor
      · rintro ⟨i, hi, rfl⟩
        exact ⟨(hmem i).1 hi, Int.le_refl _⟩
      · rintro ⟨h1, h2⟩
        have : n ≤ t.1 := hge _ h1
        have e : t.1 = n := by omega
        exact ⟨t.2, (hmem _).2 (by rw [← e]; exact h1), by rw [← e]⟩
    · unfold List.Nodup
      rw [List.pairwise_map]
      exact b2.imp fun h e => h (by injection e)
    · exact due_nodup hn n
  refine ⟨?_, b2, ?_, by simpa using hdp.length_eq⟩
  · show leftM P ids = restK P n
    unfold leftM restK
    apply List.filter_congr
    intro e he
    congr 1
    rw [decide_eq_decide, hmem]
    constructor
    · intro h
      have := key_one hn he h rfl
      rw [this]
      exact Int.le_refl _
    · intro h
      have h2 := hge e he
      have : e.2 = n := by omega
      rw [← this]; exact he
  · show (sortI ids).map _ = sortF (dueL P n)
    refine sortF_uniq (((sortI_perm2).map _).trans hdp) ?_
    rw [List.pairwise_map]
    exact List.Pairwise.imp (fun {a b} (h : a ≤ b) => (leF_iff (x := (n, a)) (y := (n, b))).2 (.inr ⟨rfl, h⟩)) sortI_pw
theorem sort_lt {l : List Int} (h : l.Nodup) : (sortI l).Pairwise (· < ·) := by
  have h2 : (sortI l).Nodup := sortI_perm2.nodup_iff.2 h
  have := sortI_pw.and h2
  exact this.imp fun ⟨a, b⟩ => by omega
/- What is kept from tick to tick. -/
def okT (q : WM) (c : Nat) : Prop := 0 ≤ q.1 ∧ (q.2.2.1.map Prod.fst).Nodup ∧ (∀ e ∈ q.2.2.1, q.1 < e.2) ∧ okW q.1 1 1 1 q.2.1 ∧ (∀ e ∈ q.2.2.1, isIn q.2.1 (e.2, e.1)) ∧ tot q.2.1 ≤ c
theorem rest_rest {m : SM} {a b : Int} (h : a ≤ b) : restK (restK m a) b = restK m b := by
  unfold restK
  rw [List.filter_filter]
  congr 1
  funext e
  by_cases h1 : e.2 ≤ b
  · simp [h1]
  · have : ¬ e.2 ≤ a := by omega
    simp [h1, this]
theorem tick_ok {q : WM} {c : Nat} (h : okT q c) : okT (tickW q) c ∧ (tickW q).1 = q.1 + 1 ∧ (tickW q).2.2.1 = restK q.2.2.1 (q.1 + 1) ∧ (tickW q).2.2.2 = q.2.2.2 ++ dueK q.2.2.1 (q.1 + 1) ∧
    (burn (q.1 + 1) q.2.1 q.2.2.1).2.Nodup ∧ (burn (q.1 + 1) q.2.1 q.2.2.1).2.length = (dueL q.2.2.1 (q.1 + 1)).length := by
  obtain ⟨g0, g1, g2, g3, g4, g5⟩ := h
  obtain ⟨a1, a2, a3⟩ := tickOn_ok g3 g0
  obtain ⟨b1, b2, b3⟩ := fired_ok a1 (by omega)
  have hb := burn_ok (P := q.2.2.1) (n := q.1 + 1) (l := (tickOn (q.1 + 1) q.2.1).getD (spk (q.1 + 1) 1 0) []) g1 (fun t ht => ((due_spoke a1 (by omega) t).1 ht).2)
    (fun i hi => (due_spoke a1 (by omega) _).2 ⟨(a3 _).2 (g4 _ hi), rfl⟩) (fun e he => by have := g2 e he; omega)
  obtain ⟨c1, c2, c3, c4⟩ := hb
  have e1 : (tickW q).2.2.1 = restK q.2.2.1 (q.1 + 1) := c1
  refine ⟨⟨by show 0 ≤ q.1 + 1; omega, by rw [e1]; exact rest_nodup g1 _, fun e he => ?_, b1, fun e he => ?_, ?_⟩, rfl, e1, ?_, c2, c4⟩
  · rw [e1] at he
    exact (mem_rest.1 he).2
  · rw [e1] at he
    obtain ⟨h1, h2⟩ := mem_rest.1 he
    exact b3 _ ((a3 _).2 (g4 e h1)) (by show e.2 ≠ q.1 + 1; omega)
  · show tot ((tickOn (q.1 + 1) q.2.1).set (spk (q.1 + 1) 1 0) []) ≤ c
    omega
  · show q.2.2.2 ++ (sortI (burn (q.1 + 1) q.2.1 q.2.2.1).2).map (fun i => (q.1 + 1, i)) = _
    unfold burn
    rw [c3]
theorem due_none {m : SM} {now : Int} (h : ∀ e ∈ m, now < e.2) : restK m now = m ∧ dueK m now = [] := by
  constructor
  · unfold restK
    rw [List.filter_eq_self]
    intro e he
    have := h e he
    simp; omega
  · unfold dueK
    have e : m.filter (fun e => decide (e.2 ≤ now)) = [] := by
      rw [List.filter_eq_nil_iff]
      intro e he
      have := h e he
      simp; omega
    rw [e]
    simp [sortF]
theorem due_next {m : SM} {a b : Int} (h : a ≤ b) : dueK m a ++ dueK (restK m a) b = dueK m b := by
  show sortF (dueL m a) ++ sortF (dueL (restK m a) b) = sortF (dueL m b)
  apply sortF_uniq
  · refine (sortF_perm.append sortF_perm).trans ?_
    unfold dueL restK
    rw [← List.map_append]
    apply List.Perm.map
    have h1 : m.filter (fun e => decide (e.2 ≤ a)) = (m.filter fun e => decide (e.2 ≤ b)).filter fun e => decide (e.2 ≤ a) := by
      rw [List.filter_filter]
      congr 1
      funext e
      by_cases g : e.2 ≤ a
      · have : e.2 ≤ b := by omega
        simp [g, this]
      · simp [g]
    have h2 : (m.filter fun e => !decide (e.2 ≤ a)).filter (fun e => decide (e.2 ≤ b)) = (m.filter fun e => decide (e.2 ≤ b)).filter fun e => !decide (e.2 ≤ a) := by
      rw [List.filter_filter, List.filter_filter]
      congr 1
      funext e
      exact Bool.and_comm _ _
    rw [h1, h2]
    exact List.filter_append_perm _ _
  · rw [List.pairwise_append]
    refine ⟨sortF_pw, sortF_pw, fun x hx y hy => ?_⟩
    obtain ⟨x1, x2⟩ := mem_dueL.1 (sortF_perm.mem_iff.1 hx)
    obtain ⟨y1, y2⟩ := mem_dueL.1 (sortF_perm.mem_iff.1 hy)
    have := (mem_rest.1 y1).2
    exact leF_iff.2 (.inl (by have : a < y.1 := this; omega))
theorem ticks_ok {q : WM} {c : Nat} (h : okT q c) : ∀ n : Nat, okT (ticksW q n) c ∧ (ticksW q n).1 = q.1 + n ∧ (ticksW q n).2.2.1 = restK q.2.2.1 (q.1 + n) ∧ (ticksW q n).2.2.2 = q.2.2.2 ++ dueK q.2.2.1 (q.1 + n)
  | 0 => by
    have e : q.1 + ((0 : Nat) : Int) = q.1 := by omega
    rw [e]
    obtain ⟨h1, h2⟩ := due_none h.2.2.1
    rw [h1, h2, List.append_nil]
    exact ⟨h, rfl, rfl, rfl⟩
  | n + 1 => by
    obtain ⟨a1, a2, a3, a4⟩ := ticks_ok h n
    obtain ⟨b1, b2, b3, b4, _⟩ := tick_ok a1
    have e : q.1 + ((n + 1 : Nat) : Int) = q.1 + n + 1 := by omega
    rw [e]
    refine ⟨b1, by show (tickW (ticksW q n)).1 = _; rw [b2, a2], ?_, ?_⟩
    · show (tickW (ticksW q n)).2.2.1 = _
      rw [b3, a3, a2, rest_rest (by omega)]
    · show (tickW (ticksW q n)).2.2.2 = _
      rw [b4, a4, a3, a2, List.append_assoc, due_next (by omega)]
theorem okT_of {q : WM} {k : Int} (h : okQ q k) : okT q k.toNat := by
  obtain ⟨⟨a1, a2, a3, a4⟩, b, c, d⟩ := h
  exact ⟨a1.1, a3, fun e he => (a2 e he).1, b, c, by omega⟩
/- One thing done. -/
theorem doW_law {q : WM} {k : Int} {o : TO} (h : okQ q k) : nextK (q.1, q.2.2.1, q.2.2.2) o = ((doW q o).1, (doW q o).2.2.1, (doW q o).2.2.2) ∧ okQ (doW q o) (k + 1) := by
  have hT := okT_of h
  obtain ⟨hk, b, c, d⟩ := h
  by_cases he : errK q.2.2.1 o ≠ 0
  · have e1 : nextK (q.1, q.2.2.1, q.2.2.2) o = (q.1, q.2.2.1, q.2.2.2) := next_err he
    have e2 : doW q o = q := by unfold doW; rw [if_pos he]
    rw [e1, e2]
    exact ⟨rfl, kOk_same hk, b, c, by omega⟩
  · by_cases h1 : o.1 = 1
    · have e2 : doW q o = (q.1, putW q.1 q.2.1 (q.1 + o.2.2, o.2.1), mput I64 q.2.2.1 o.2.1 (q.1 + o.2.2), q.2.2.2) := by unfold doW; rw [if_neg he, if_pos h1]
      have h3 : ¬ (o.2.2 < 1 ∨ 511 < o.2.2) := fun g => he (by rw [err2 (.inl ⟨h1, g⟩)]; decide)
      have h4 : mhas I64 q.2.2.1 o.2.1 = false := by
        cases hm : mhas I64 q.2.2.1 o.2.1 with
        | false => rfl
        | true => exact absurd (by rw [err6 h1 h3 hm]; decide) he
      rw [e2, next_add (s := (q.1, q.2.2.1, q.2.2.2)) h1 h3 h4]
      refine ⟨rfl, kOk_add hk h3, okW_put b (by show q.1 + 1 ≤ q.1 + o.2.2; omega) (by show q.1 + o.2.2 ≤ q.1 + 510 + 1; omega) hT.1 (by omega) (by omega) (by omega), fun e he => ?_, ?_⟩
      · show isIn (putW q.1 q.2.1 (q.1 + o.2.2, o.2.1)) (e.2, e.1)
        rw [isIn_put b.1]
        rcases mem_put he with rfl | he
        · exact .inr rfl
        · exact .inl (c e he)
      · show (tot (putW q.1 q.2.1 (q.1 + o.2.2, o.2.1)) : Int) ≤ k + 1
        rw [put_tot b.1]
        omega
    · by_cases h2 : o.1 = 2
      · have e2 : doW q o = (q.1, q.2.1, mdel I64 q.2.2.1 o.2.1, q.2.2.2) := by unfold doW; rw [if_neg he, if_neg h1, if_pos h2]
        have h4 : mhas I64 q.2.2.1 o.2.1 = true := by
          cases hm : mhas I64 q.2.2.1 o.2.1 with
          | true => rfl
          | false => exact absurd (by rw [err3 h2 hm]; decide) he
        rw [e2, next_can (s := (q.1, q.2.2.1, q.2.2.2)) h2 h4]
        exact ⟨rfl, kOk_can hk, b, fun e he => c e ((mem_del hT.2.1).1 he).1, by show (tot q.2.1 : Int) ≤ k + 1; omega⟩
      · have e2 : doW q o = ticksW q o.2.2.toNat := by unfold doW; rw [if_neg he, if_neg h1, if_neg h2]
        have h3 : o.1 = 3 := by
          by_cases g : o.1 < 1 ∨ 3 < o.1
          · exact absurd (by rw [err5 g]; decide) he
          · omega
        have h5 : ¬ (o.2.2 < 0 ∨ 2000 < o.2.2) := fun g => he (by rw [err2 (.inr ⟨h3, g⟩)]; decide)
        obtain ⟨a1, a2, a3, a4⟩ := ticks_ok hT o.2.2.toNat
        have en : q.1 + ((o.2.2.toNat : Nat) : Int) = q.1 + o.2.2 := by omega
        rw [en] at a2 a3 a4
        rw [e2, next_tick (s := (q.1, q.2.2.1, q.2.2.2)) h3 h5, a2, a3, a4]
        refine ⟨rfl, ?_, a1.2.2.2.1, a1.2.2.2.2.1, by have := a1.2.2.2.2.2; omega⟩
        rw [a2, a3, a4]
        exact kOk_tick (s := (q.1, q.2.2.1, q.2.2.2)) hk (by omega) (by omega)

end Go.Proofs.Ytpnmfoojmodnlaa.Wheel
