/-
  LiftMerges: spans apart, and what they cover.
-/
import Derived.Test.YtpnmfoojmodnlaaLiftmE
namespace Go.Proofs.Ytpnmfoojmodnlaa.Liftm
open Go.Sx
set_option maxRecDepth 100000
set_option maxHeartbeats 1000000
set_option linter.unusedSimpArgs false
set_option linter.unusedVariables false

def Norm (l : List Sp) : Prop := (∀ p ∈ l, p.1 < p.2) ∧ l.Pairwise (fun a b => a.2 < b.1)
def Cov (l : List Sp) (q : Int) : Prop := ∃ p ∈ l, 2 * p.1 ≤ q ∧ q ≤ 2 * p.2
theorem cov_nil {q : Int} : Cov [] q ↔ False := by simp [Cov]
theorem cov_cons {p : Sp} {l : List Sp} {q : Int} : Cov (p :: l) q ↔ (2 * p.1 ≤ q ∧ q ≤ 2 * p.2) ∨ Cov l q := by simp [Cov]
theorem cov_app {l m : List Sp} {q : Int} : Cov (l ++ m) q ↔ Cov l q ∨ Cov m q := by
  unfold Cov
  constructor
  · rintro ⟨p, hp, h⟩
    rcases List.mem_append.1 hp with hp | hp
    · exact Or.inl ⟨p, hp, h⟩
    · exact Or.inr ⟨p, hp, h⟩
  · rintro (⟨p, hp, h⟩ | ⟨p, hp, h⟩)
    · exact ⟨p, List.mem_append_left _ hp, h⟩
    · exact ⟨p, List.mem_append_right _ hp, h⟩
theorem norm_cons {p : Sp} {l : List Sp} : Norm (p :: l) ↔ p.1 < p.2 ∧ (∀ s ∈ l, p.2 < s.1) ∧ Norm l := by
  unfold Norm
  rw [List.pairwise_cons]
  simp only [List.mem_cons, forall_eq_or_imp]
  grind
theorem norm_uniq : ∀ {a b : List Sp}, Norm a → Norm b → (∀ q, Cov a q ↔ Cov b q) → a = b
  | [], [], _, _, _ => rfl
  | [], r :: b, _, hb, h => by
    have hr := (norm_cons.1 hb).1
    have := (h (2 * r.1)).2 (cov_cons.2 (Or.inl ⟨by omega, by omega⟩))
    exact (cov_nil.1 this).elim
  | p :: a, [], ha, _, h => by
    have hr := (norm_cons.1 ha).1
    have := (h (2 * p.1)).1 (cov_cons.2 (Or.inl ⟨by omega, by omega⟩))
    exact (cov_nil.1 this).elim
  | p :: a, r :: b, ha, hb, h => by
    obtain ⟨p1, p2, p3⟩ := norm_cons.1 ha
    obtain ⟨r1, r2, r3⟩ := norm_cons.1 hb
    have e1 : r.1 ≤ p.1 := by
      rcases cov_cons.1 ((h (2 * p.1)).1 (cov_cons.2 (Or.inl ⟨by omega, by omega⟩))) with hc | ⟨s, hs, hc⟩
      · omega
      · have := r2 s hs; omega
    have e2 : p.1 ≤ r.1 := by
      rcases cov_cons.1 ((h (2 * r.1)).2 (cov_cons.2 (Or.inl ⟨by omega, by omega⟩))) with hc | ⟨s, hs, hc⟩
      · omega
      · have := p2 s hs; omega
    have e3 : ¬ p.2 < r.2 := fun hlt => by
      rcases cov_cons.1 ((h (2 * p.2 + 1)).2 (cov_cons.2 (Or.inl ⟨by omega, by omega⟩))) with hc | ⟨s, hs, hc⟩
      · omega
      · have := p2 s hs; omega
    have e4 : ¬ r.2 < p.2 := fun hlt => by
      rcases cov_cons.1 ((h (2 * r.2 + 1)).1 (cov_cons.2 (Or.inl ⟨by omega, by omega⟩))) with hc | ⟨s, hs, hc⟩
      · omega
      · have := r2 s hs; omega
    have ep : p = r := Prod.ext (by omega) (by omega)
    subst ep
    rw [norm_uniq p3 r3 fun q => ?_]
    constructor
    · intro hq
      rcases cov_cons.1 ((h q).1 (cov_cons.2 (Or.inr hq))) with hc | hc
      · obtain ⟨s, hs, hc2⟩ := hq
        have := p2 s hs; omega
      · exact hc
    · intro hq
      rcases cov_cons.1 ((h q).2 (cov_cons.2 (Or.inr hq))) with hc | hc
      · obtain ⟨s, hs, hc2⟩ := hq
        have := r2 s hs; omega
      · exact hc
/- The fold over the sorted list. -/
theorem lastP_snoc {l : List Sp} {p : Sp} : lastP (l ++ [p]) = p := by
  unfold lastP
  simp
theorem set_snoc {l : List Sp} {p v : Sp} : (l ++ [p]).set ((l ++ [p]).length - 1) v = l ++ [v] := by
  rw [List.length_append, List.length_singleton, Nat.add_sub_cancel, List.set_append_right _ _ (Nat.le_refl _)]
  simp
theorem mstep_ok {out : List Sp} {x : Sp} (ho : Norm out) (hx : x.1 < x.2) (hs : ∀ o ∈ out, o.1 ≤ x.1) :
    Norm (mStep out x) ∧ (∀ q, Cov (mStep out x) q ↔ Cov out q ∨ (2 * x.1 ≤ q ∧ q ≤ 2 * x.2)) ∧ ∀ o ∈ mStep out x, o.1 ≤ x.1 := by
  rcases List.eq_nil_or_concat out with rfl | ⟨l, p, rfl⟩
  · have e : mStep [] x = [x] := by simp [mStep]
    rw [e]
    refine ⟨norm_cons.2 ⟨hx, by simp, by simp [Norm]⟩, fun q => by rw [cov_cons, cov_nil]; simp, by simp⟩
  · rw [List.concat_eq_append] at *
    have hp : p.1 < p.2 := ho.1 p (by simp)
    have hl := List.pairwise_append.1 ho.2
    have hps := hs p (by simp)
    by_cases hc : x.1 ≤ p.2
    · have e : mStep (l ++ [p]) x = l ++ [(p.1, max p.2 x.2)] := by
        unfold mStep
        rw [lastP_snoc, if_pos ⟨by simp, hc⟩, set_snoc]
      rw [e]
      refine ⟨⟨fun o ho' => ?_, List.pairwise_append.2 ⟨hl.1, by simp, fun a ha b hb => ?_⟩⟩, fun q => ?_, fun o ho' => ?_⟩
      · rcases List.mem_append.1 ho' with h | h
        · exact ho.1 o (List.mem_append_left _ h)
        · rw [List.mem_singleton.1 h]; show p.1 < max p.2 x.2; omega
      · rw [List.mem_singleton.1 hb]; exact hl.2.2 a ha p (by simp)
      · rw [cov_app, cov_app, cov_cons, cov_cons, cov_nil]
        simp only [or_false, or_assoc]
        constructor
        · rintro (h | h)
          · exact Or.inl h
          · have h2 : 2 * p.1 ≤ q ∧ q ≤ 2 * max p.2 x.2 := h
            by_cases hq : q ≤ 2 * p.2
            · exact Or.inr (Or.inl ⟨h2.1, hq⟩)
            · exact Or.inr (Or.inr ⟨by omega, by omega⟩)
        · rintro (h | h | h)
          · exact Or.inl h
          · exact Or.inr ⟨h.1, by show q ≤ 2 * max p.2 x.2; omega⟩
          · exact Or.inr ⟨by show 2 * p.1 ≤ q; omega, by show q ≤ 2 * max p.2 x.2; omega⟩
      · rcases List.mem_append.1 ho' with h | h
        · exact hs o (List.mem_append_left _ h)
        · rw [List.mem_singleton.1 h]; exact hps
    · have e : mStep (l ++ [p]) x = (l ++ [p]) ++ [x] := by
        unfold mStep
        rw [lastP_snoc, if_neg (fun h => hc h.2)]
      rw [e]
      refine ⟨⟨fun o ho' => ?_, List.pairwise_append.2 ⟨ho.2, by simp, fun a ha b hb => ?_⟩⟩, fun q => ?_, fun o ho' => ?_⟩
      · rcases List.mem_append.1 ho' with h | h
        · exact ho.1 o h
        · rw [List.mem_singleton.1 h]; exact hx
      · rw [List.mem_singleton.1 hb]
        rcases List.mem_append.1 ha with h | h
        · have h1 := hl.2.2 a h p (by simp)
          omega
        · rw [List.mem_singleton.1 h]; omega
      · rw [cov_app, cov_cons, cov_nil, or_false]
      · rcases List.mem_append.1 ho' with h | h
        · exact hs o h
        · rw [List.mem_singleton.1 h]; exact Int.le_refl _
theorem fold_ok : ∀ {s out : List Sp}, Norm out → (∀ x ∈ s, x.1 < x.2) → s.Pairwise (fun a b => a.1 ≤ b.1) → (∀ o ∈ out, ∀ x ∈ s, o.1 ≤ x.1) →
    Norm (s.foldl mStep out) ∧ ∀ q, Cov (s.foldl mStep out) q ↔ Cov out q ∨ Cov s q
  | [], out, ho, _, _, _ => ⟨ho, fun q => by rw [cov_nil, or_false]; rfl⟩
  | x :: s, out, ho, hx, hp, hs => by
    obtain ⟨p1, p2⟩ := List.pairwise_cons.1 hp
    obtain ⟨a1, a2, a3⟩ := mstep_ok ho (hx x (by simp)) (fun o ho' => hs o ho' x (by simp))
    obtain ⟨b1, b2⟩ := fold_ok (s := s) a1 (fun y hy => hx y (List.mem_cons_of_mem _ hy)) p2 (fun o ho' y hy => Int.le_trans (a3 o ho') (p1 y hy))
    refine ⟨b1, fun q => ?_⟩
    rw [List.foldl_cons, b2 q, a2 q, cov_cons, or_assoc]
/- The list of spans apart. -/
def apt (a b : Sp) : Prop := a.2 < b.1 ∨ b.2 < a.1
def Apart (l : List Sp) : Prop := (∀ p ∈ l, p.1 < p.2) ∧ l.Pairwise apt
theorem inner_ok : ∀ {out a : List Sp} {s : Sp}, Apart (a ++ out) → (∀ x ∈ a, apt x s) → s.1 < s.2 → (∀ x ∈ a ++ out, okP x = true) → okP s = true →
    Apart (out.foldl iStep (a, s)).1 ∧ (∀ x ∈ (out.foldl iStep (a, s)).1, apt x (out.foldl iStep (a, s)).2) ∧ (out.foldl iStep (a, s)).2.1 < (out.foldl iStep (a, s)).2.2 ∧
    (∀ x ∈ (out.foldl iStep (a, s)).1, okP x = true) ∧ okP (out.foldl iStep (a, s)).2 = true ∧ (out.foldl iStep (a, s)).1.length ≤ a.length + out.length ∧
    ∀ q, Cov ((out.foldl iStep (a, s)).1 ++ [(out.foldl iStep (a, s)).2]) q ↔ Cov (a ++ out) q ∨ (2 * s.1 ≤ q ∧ q ≤ 2 * s.2)
  | [], a, s, ha, hs, hl, h1, h2 => by
    rw [List.append_nil] at ha h1
    refine ⟨ha, hs, hl, h1, h2, by simp, fun q => ?_⟩
    simp only [List.foldl_nil, List.append_nil]
    rw [cov_app, cov_cons, cov_nil, or_false]
  | x :: out, a, s, ha, hs, hl, h1, h2 => by
    have hx : x.1 < x.2 := ha.1 x (by simp)
    have hpw := List.pairwise_append.1 ha.2
    have hpx := List.pairwise_cons.1 hpw.2.1
    rw [List.foldl_cons]
    by_cases hc : x.2 < s.1 ∨ s.2 < x.1
    · have e : iStep (a, s) x = (a ++ [x], s) := by unfold iStep; rw [if_pos hc]
      have ea : (a ++ [x]) ++ out = a ++ x :: out := by simp
      rw [e]
      obtain ⟨r1, r2, r3, r4, r5, r6, r7⟩ := inner_ok (out := out) (a := a ++ [x]) (s := s) (by rw [ea]; exact ha) (fun y hy => by
        rcases List.mem_append.1 hy with h | h
        · exact hs y h
        · rw [List.mem_singleton.1 h]; exact hc) hl (by rw [ea]; exact h1) h2
      refine ⟨r1, r2, r3, r4, r5, ?_, fun q => ?_⟩
      · simp only [List.length_append, List.length_cons, List.length_nil] at r6 ⊢; omega
      · rw [r7 q, ea]
    · have e : iStep (a, s) x = (a, (min s.1 x.1, max s.2 x.2)) := by unfold iStep; rw [if_neg hc]
      rw [e]
      have hsub : (a ++ out).Sublist (a ++ x :: out) := List.Sublist.append_left (List.sublist_cons_self _ _) a
      obtain ⟨r1, r2, r3, r4, r5, r6, r7⟩ := inner_ok (out := out) (a := a) (s := (min s.1 x.1, max s.2 x.2)) ⟨fun p hp => ha.1 p (hsub.subset hp), ha.2.sublist hsub⟩ (fun y hy => by
        have q1 := hs y hy
        have q2 := hpw.2.2 y hy x (by simp)
        have q3 := ha.1 y (List.mem_append_left _ hy)
        unfold apt at q1 q2 ⊢
        show y.2 < min s.1 x.1 ∨ max s.2 x.2 < y.1
        omega) (by show min s.1 x.1 < max s.2 x.2; omega) (fun p hp => h1 p (hsub.subset hp)) (by
        have q1 := h1 x (by simp)
        unfold okP at q1 h2 ⊢
        simp only [Bool.and_eq_true, decide_eq_true_eq] at q1 h2 ⊢
        omega)
      refine ⟨r1, r2, r3, r4, r5, ?_, fun q => ?_⟩
      · simp only [List.length_cons] at r6 ⊢; omega
      · rw [r7 q, cov_app, cov_app, cov_cons]
        constructor
        · rintro ((h | h) | h)
          · exact Or.inl (Or.inl h)
          · exact Or.inl (Or.inr (Or.inr h))
          · have h3 : 2 * min s.1 x.1 ≤ q ∧ q ≤ 2 * max s.2 x.2 := h
            by_cases hq : 2 * s.1 ≤ q ∧ q ≤ 2 * s.2
            · exact Or.inr hq
            · exact Or.inl (Or.inr (Or.inl (by omega)))
        · rintro ((h | h | h) | h)
          · exact Or.inl (Or.inl h)
          · exact Or.inr (by show 2 * min s.1 x.1 ≤ q ∧ q ≤ 2 * max s.2 x.2; omega)
          · exact Or.inl (Or.inr h)
          · exact Or.inr (by show 2 * min s.1 x.1 ≤ q ∧ q ≤ 2 * max s.2 x.2; omega)
theorem ins_ok {out : List Sp} {s : Sp} (ho : Apart out) (h1 : ∀ x ∈ out, okP x = true) (h2 : okP s = true) :
    Apart (insP out s) ∧ (∀ x ∈ insP out s, okP x = true) ∧ (insP out s).length ≤ out.length + 1 ∧ ∀ q, Cov (insP out s) q ↔ Cov out q ∨ (2 * s.1 ≤ q ∧ q ≤ 2 * s.2) := by
  have hs : s.1 < s.2 := by
    unfold okP at h2
    simp only [Bool.and_eq_true, decide_eq_true_eq] at h2
    omega
  obtain ⟨r1, r2, r3, r4, r5, r6, r7⟩ := inner_ok (out := out) (a := []) (s := s) ho (by simp) hs h1 h2
  unfold insP
  refine ⟨⟨fun p hp => ?_, List.pairwise_append.2 ⟨r1.2, by simp, fun a ha b hb => ?_⟩⟩, fun x hx => ?_, ?_, r7⟩
  · rcases List.mem_append.1 hp with h | h
    · exact r1.1 p h
    · rw [List.mem_singleton.1 h]; exact r3
  · rw [List.mem_singleton.1 hb]; exact r2 a ha
  · rcases List.mem_append.1 hx with h | h
    · exact r4 x h
    · rw [List.mem_singleton.1 h]; exact r5
  · simp only [List.length_append, List.length_cons, List.length_nil] at r6 ⊢; omega
theorem insl_ok : ∀ {l out : List Sp}, Apart out → (∀ x ∈ out, okP x = true) → (∀ x ∈ l, okP x = true) →
    Apart (l.foldl insP out) ∧ (∀ x ∈ l.foldl insP out, okP x = true) ∧ (l.foldl insP out).length ≤ out.length + l.length ∧ ∀ q, Cov (l.foldl insP out) q ↔ Cov out q ∨ Cov l q
  | [], out, ho, h1, _ => ⟨ho, h1, by simp, fun q => by rw [cov_nil, or_false]; rfl⟩
  | s :: l, out, ho, h1, h2 => by
    obtain ⟨a1, a2, a3, a4⟩ := ins_ok (s := s) ho h1 (h2 s (by simp))
    obtain ⟨b1, b2, b3, b4⟩ := insl_ok (l := l) a1 a2 (fun x hx => h2 x (List.mem_cons_of_mem _ hx))
    refine ⟨b1, b2, ?_, fun q => ?_⟩
    · rw [List.foldl_cons, List.length_cons]; omega
    · rw [List.foldl_cons, b4 q, a4 q, cov_cons, or_assoc]
theorem okP_S {p : Sp} (h : okP p = true) : okS p = true := by
  unfold okP at h
  unfold okS
  simp only [Bool.and_eq_true, decide_eq_true_eq] at h ⊢
  omega
theorem okP_lt {p : Sp} (h : okP p = true) : p.1 < p.2 := by
  unfold okP at h
  simp only [Bool.and_eq_true, decide_eq_true_eq] at h
  omega
theorem cov_perm {l m : List Sp} (h : l.Perm m) (q : Int) : Cov l q ↔ Cov m q := by
  unfold Cov
  constructor
  · rintro ⟨p, hp, hq⟩; exact ⟨p, h.mem_iff.1 hp, hq⟩
  · rintro ⟨p, hp, hq⟩; exact ⟨p, h.mem_iff.2 hp, hq⟩
theorem apart_sort {l : List Sp} (h : Apart l) (ho : ∀ x ∈ l, okS x = true) : Norm (sortS l) := by
  refine ⟨fun p hp => h.1 p ((sortS_pm l).mem_iff.1 hp), ?_⟩
  have h1 : (sortS l).Pairwise apt := (List.Perm.pairwise_iff (fun {a b} hab => by unfold apt at hab ⊢; exact hab.symm) (sortS_pm l)).2 h.2
  have h2 := h1.and (sortS_pw ho)
  refine h2.imp_of_mem (fun {a b} ha hb hab => ?_)
  have ha := h.1 a ((sortS_pm l).mem_iff.1 ha)
  have hb := h.1 b ((sortS_pm l).mem_iff.1 hb)
  obtain ⟨hab, hle⟩ := hab
  unfold apt at hab
  omega
/- Both come to the same. -/
theorem merge_eq {l : List Sp} (h : ∀ x ∈ l, okP x = true) : mergeP l = sortS (l.foldl insP []) := by
  obtain ⟨a1, a2, _, a4⟩ := insl_ok (l := l) (out := []) ⟨by simp, by simp⟩ (by simp) h
  have hok : ∀ x ∈ l, okS x = true := fun x hx => okP_S (h x hx)
  obtain ⟨b1, b2⟩ := fold_ok (s := sortS l) (out := []) ⟨by simp, by simp⟩ (fun x hx => okP_lt (h x ((sortS_pm l).mem_iff.1 hx))) (sortS_pw hok) (by simp)
  refine norm_uniq b1 (apart_sort a1 (fun x hx => okP_S (a2 x hx))) fun q => ?_
  rw [cov_perm (sortS_pm _) q, a4 q]
  have := b2 q
  rw [cov_perm (sortS_pm l) q] at this
  exact this

end Go.Proofs.Ytpnmfoojmodnlaa.Liftm
