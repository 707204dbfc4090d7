/-
  Sx, part RA: functions that change memory of ours against their contracts.
-/
import Derived.Test.YtpnmfoojmodnlaaSxR
namespace Go.Sx
open Go.RowKit

theorem padTo_length : ∀ (n : Nat) (l : List SV), (padTo n l).length = n
  | 0, _ => rfl
  | n + 1, [] => by simp [padTo, padTo_length n]
  | n + 1, _ :: r => by simp [padTo, padTo_length n]
theorem lget_padTo : ∀ (n : Nat) (l : List SV) (i : Nat), lget (padTo n l) i = lget l i ∨ lget (padTo n l) i = .one .any
  | 0, _, _ => .inr rfl
  | n + 1, [], 0 => .inr rfl
  | n + 1, [], i + 1 => (lget_padTo n [] i).elim (fun h => .inr (by show lget (padTo n []) i = _; rw [h]; rfl)) .inr
  | n + 1, _ :: _, 0 => .inl rfl
  | n + 1, _ :: r, i + 1 => lget_padTo n r i
theorem setSlots_lt : ∀ (ts : List SV) (j i : Nat) (fr : List SV), i < j → lget (setSlots fr (enumS j ts)) i = lget fr i
  | [], _, _, _, _ => rfl
  | t :: ts, j, i, fr, h => by
    show lget (setSlots (lset fr j t) (enumS (j + 1) ts)) i = _
    rw [setSlots_lt ts (j + 1) i _ (by omega), lget_lset_ne _ _ _ _ (by omega)]
theorem setSlots_enum : ∀ (ts : List SV) (j i : Nat) (fr : List SV), j + ts.length ≤ fr.length → i < ts.length → lget (setSlots fr (enumS j ts)) (j + i) = lget ts i
  | [], _, _, _, _, h => by simp at h
  | t :: ts, j, i, fr, hl, h => by
    show lget (setSlots (lset fr j t) (enumS (j + 1) ts)) (j + i) = _
    cases i with
    | zero =>
      rw [show j + 0 = j from rfl, setSlots_lt ts (j + 1) j _ (by omega), lget_lset_eq, if_pos (by simp at hl; omega)]
      rfl
    | succ i =>
      rw [show j + (i + 1) = (j + 1) + i by omega, setSlots_enum ts (j + 1) i _ (by rw [lset_length]; simp at hl; omega) (by simpa using h)]
      rfl
theorem trkSVs_length : ∀ l : List (Nat × PV), (trkSVs l).length = l.length
  | [] => rfl
  | _ :: r => by simp [trkSVs, trkSVs_length r]
theorem lget_trk : ∀ (l : List (Nat × PV)) (i : Nat) (e : Nat × PV), l[i]? = some e → lget (trkSVs l) i = .one e.2
  | [], _, _, h => by simp at h
  | _ :: _, 0, e, h => by simp at h; subst h; rfl
  | _ :: r, i + 1, e, h => lget_trk r i e (by simpa using h)
theorem lget_trk_none : ∀ (l : List (Nat × PV)) (i : Nat), l[i]? = none → lget (trkSVs l) i = .one .any
  | [], _, _ => rfl
  | _ :: _, 0, h => by simp at h
  | _ :: r, i + 1, h => lget_trk_none r i (by simpa using h)
theorem distN_mem : ∀ {l : List (Nat × HE)}, distN l = true → ∀ {k h}, (k, h) ∈ l → assoc l k = some h
  | [], _, _, _, hm => by cases hm
  | (j, q) :: r, hd, k, h, hm => by
    unfold distN at hd
    split at hd
    · rename_i e
      unfold assoc
      rcases List.mem_cons.1 hm with e2 | hm
      · injection e2 with e3 e4; subst e3; subst e4; rw [Nat.beq_refl]; rfl
      · have := distN_mem hd hm
        cases eb : Nat.beq k j with
        | true => have e3 := Nat.eq_of_beq_eq_true eb; subst e3; rw [e] at this; cases this
        | false => exact this
    · cases hd
theorem trks_mem : ∀ {l : List (Nat × HE)} {e : Nat × PV}, e ∈ trks l → ∃ h, (e.1, h) ∈ l ∧ trkHE e.1 h = some e.2
  | [], e, h => by cases h
  | (j, q) :: r, e, hm => by
    unfold trks at hm
    split at hm
    · rename_i p hp
      rcases List.mem_cons.1 hm with rfl | hm
      · exact ⟨q, by simp, hp⟩
      · obtain ⟨h, g1, g2⟩ := trks_mem hm; exact ⟨h, List.mem_cons_of_mem _ g1, g2⟩
    · obtain ⟨h, g1, g2⟩ := trks_mem hm; exact ⟨h, List.mem_cons_of_mem _ g1, g2⟩
theorem sameNms_trks : ∀ {l l' : List (Nat × HE)}, sameNms l l' = true → (trks l).map (·.1) = (trks l').map (·.1)
  | [], [], _ => rfl
  | (k, h) :: r, (j, h') :: q, e => by
    unfold sameNms at e
    cases eb : Nat.beq k j with
    | false => rw [eb] at e; cases e
    | true =>
      rw [eb] at e
      simp only [cond_true] at e
      have := Nat.eq_of_beq_eq_true eb
      subst this
      unfold trks
      split at e
      · rename_i e1 e2
        have := sameNms_trks e
        rw [e1, e2]
        show k :: _ = k :: _
        rw [this]
      · rename_i e1 e2; rw [e1, e2]; exact sameNms_trks e
      · cases e
  | [], _ :: _, e => by cases e
  | _ :: _, [], e => by cases e
theorem trk_c {c : Cx} {k : Nat} {h : HE} {p : PV} (hp : trkHE k h = some p) (hu : c.us k = true) (hh : HEc c k h) : SVc c (.one p) (c.ρ k) := by
  cases h with
  | box ps =>
    cases hp
    obtain ⟨b, e, cs, h1, _⟩ := hh
    exact SVc.of1 rfl ⟨hu, b, h1, by rw [h1]⟩
  | row t xs =>
    cases hp
    refine SVc.of1 rfl ⟨hu, rfl, ?_⟩
    rcases hh with ⟨h1, _⟩ | ⟨b, o, cp, cur, e, h1, _⟩ <;> rw [h1] <;> rfl
  | map kk t xs =>
    cases hp
    obtain ⟨b, es, cl, h1, _⟩ := hh
    exact SVc.of1 rfl ⟨hu, rfl, by rw [h1]; rfl⟩
  | clo f ps =>
    cases hp
    obtain ⟨vs, h1, _⟩ := hh
    exact SVc.of1 rfl ⟨hu, rfl, by rw [h1]; rfl⟩
  | _ => cases hp
theorem trk_eq {c : Cx} {k : Nat} {h : HE} {p : PV} {v : Value} (hp : trkHE k h = some p) (hv : SVc c (.one p) v) : v = c.ρ k := by
  cases h with
  | box ps =>
    cases hp
    obtain ⟨_, b, h1, h2⟩ := SVc.one1 rfl (by simp) hv
    rw [h1]; simpa using h2
  | row t xs =>
    cases hp
    have := (SVc.one1 rfl (by simp) hv).2.1
    simpa using this
  | map kk t xs =>
    cases hp
    have := (SVc.one1 rfl (by simp) hv).2.1
    simpa using this
  | clo f ps =>
    cases hp
    have := (SVc.one1 rfl (by simp) hv).2.1
    simpa using this
  | _ => cases hp
theorem leX_ok {w0 : Base} {ρ : Nat → Value} {s : St} {a : Act} {w : World} (h : Ok w0 ρ s a w) {v : Inv} (hN : w0.bv.length = (trks v.heap).length) (hle : leX s v) :
    ∃ ρ', Ok w0 ρ' (hpOf v.heap) { tmps := #[], defers := [] } w ∧ ∀ i e, (trks v.heap)[i]? = some e → SVc (cx w0 ρ' (hpOf v.heap) w) (.one e.2) (w0.bv.getD i undef) := by
  unfold leX at hle
  simp only [] at hle
  have hlen : (padTo (trkSVs (trks v.heap)).length s.bk).length = (trks v.heap).length := by rw [padTo_length, trkSVs_length]
  have h1 : Ok w0 ρ { s with fr := padTo (trkSVs (trks v.heap)).length s.bk, bk := [] } { tmps := w0.bv.toArray, defers := [] } w :=
    { defers := rfl, below := h.below, len := by rw [hlen]; simpa using hN.symm,
      frame := fun i => by
        show SVc (cx w0 ρ s w) (lget (padTo (trkSVs (trks v.heap)).length s.bk) i) (w0.bv.toArray.getD i undef)
        rcases lget_padTo (trkSVs (trks v.heap)).length s.bk i with e | e
        · rw [e]
          have := h.back i
          have e2 : w0.bv.toArray.getD i undef = w0.bv.getD i undef := by simp
          rw [e2]; exact this
        · rw [e]; trivial
      back := fun i => (by show SVc _ (lget [] i) _; unfold lget; cases i <;> trivial)
      heap := h.heap, used := h.used, fresh := h.fresh, apart := h.apart }
  obtain ⟨ρ', h2⟩ := le_ok h1 hle
  refine ⟨ρ', { defers := rfl, below := h2.below, len := rfl, frame := fun i => (by show SVc _ (lget [] i) _; unfold lget; cases i <;> trivial)
                back := fun i => (by show SVc _ (lget [] i) _; unfold lget; cases i <;> trivial)
                heap := h2.heap, used := h2.used, fresh := h2.fresh, apart := h2.apart }, fun i e he => ?_⟩
  have h3 := h2.frame i
  have hi : i < (trks v.heap).length := (List.getElem?_eq_some_iff.1 he).1
  have e1 : lget (setSlots (anys (padTo (trkSVs (trks v.heap)).length s.bk)) (enumS 0 (trkSVs (trks v.heap)))) i = .one e.2 := by
    have := setSlots_enum (trkSVs (trks v.heap)) 0 i (anys (padTo (trkSVs (trks v.heap)).length s.bk)) (by rw [anys_length, hlen, trkSVs_length]; omega) (by rw [trkSVs_length]; exact hi)
    rw [Nat.zero_add] at this
    rw [this]; exact lget_trk _ i e he
  have e2 : w0.bv.toArray.getD i undef = w0.bv.getD i undef := by simp
  rw [← e1, ← e2]
  exact h3
/-- One run of a function that changes memory of ours. -/
theorem prc_run {P : Program} {X : Fx} {n g : Nat} {fn : Func} {p : Prc} {x : p.G} (h : FxAll P X) (hf : P.funcs[g]? = some fn) (hv : vcPr X n g fn p x) {w0 : Base} {ρ : Nat → Value} {w : World} {vs : Array Value}
    (h0 : Ok w0 ρ (p.st x) { tmps := vs, defers := [] } w) :
    Calls P g vs w (fun e w' => ∃ v ρ2, e = .returned v ∧ (∀ n, trkd (trks (p.inv x).heap) n = true → ρ2 n = ρ n) ∧ Ok w0 ρ2 (hpOf (p.inv (p.f x).1).heap) { tmps := #[], defers := [] } w' ∧ ResV (fun _ => True) w' p.rs v (p.f x).2) := by
  unfold vcPr at hv
  split at hv
  · rename_i b hb
    cases hc : (p.rs.all noSl && (Nat.ble p.n fn.ntmps && (distN (p.inv x).heap && sameNms (p.inv x).heap (p.inv (p.f x).1).heap))) with
    | false => rw [hc] at hv; exact hv.elim
    | true =>
    rw [hc] at hv
    simp only [cond_true] at hv
    simp only [Bool.and_eq_true] at hc
    obtain ⟨hrs, hble, hdist, hsame⟩ := hc
    have hble := Nat.le_of_ble_eq_true hble
    have hlp : (p.st x).fr.length = p.n := by show (setSlots (anys (pad p.n)) _).length = _; rw [setSlots_length, anys_length, pad_length]
    have hlv : vs.size = p.n := by rw [← hlp]; exact h0.len.symm
    let w1 : Base := { w0 with bv := (trks (p.inv x).heap).map (fun e => ρ e.1) }
    have hbv : ∀ i e, (trks (p.inv x).heap)[i]? = some e → w1.bv.getD i undef = ρ e.1 := fun i e he => by
      show ((trks (p.inv x).heap).map (fun e => ρ e.1)).getD i undef = _
      rw [List.getD, List.getElem?_map, he]; rfl
    have hok : Ok w1 ρ { p.st x with fr := (p.st x).fr ++ pad (fn.ntmps - p.n), bk := trkSVs (trks (p.inv x).heap) } { tmps := vs ++ Array.replicate (fn.ntmps - vs.size) undef, defers := [] } w :=
      { defers := rfl, below := h0.below, len := by simp [pad_length, hlp]; omega,
        frame := fun i => by
          show SVc (cx w0 ρ (p.st x) w) (lget ((p.st x).fr ++ pad (fn.ntmps - p.n)) i) _
          rw [lget_append]
          by_cases hi : i < (p.st x).fr.length
          · rw [if_pos hi]
            have := h0.frame i
            have e : (vs ++ Array.replicate (fn.ntmps - vs.size) undef).getD i undef = vs.getD i undef := by
              have hlt : i < vs.size := by omega
              simp [Array.getElem?_append, hlt]
            rw [e]; exact this
          · rw [if_neg hi, lget_pad]; trivial
        back := fun i => by
          show SVc (cx w0 ρ (p.st x) w) (lget (trkSVs (trks (p.inv x).heap)) i) (w1.bv.getD i undef)
          cases hi : (trks (p.inv x).heap)[i]? with
          | none => rw [lget_trk_none _ _ hi]; trivial
          | some e =>
            rw [lget_trk _ _ _ hi, hbv i e hi]
            obtain ⟨he, hm, hk⟩ := trks_mem (List.mem_iff_getElem?.2 ⟨i, hi⟩)
            have ha := distN_mem hdist hm
            exact trk_c (c := cx w0 ρ (p.st x) w) hk (h0.used _ he ha) (h0.heap _ he ha)
        heap := h0.heap, used := h0.used, fresh := h0.fresh, apart := h0.apart }
    have hcode := code_sound (f := g) (w0 := w1) h.ok (call_sound h n) ⟨fun k' g' c' hc' args' s' K' hh => by rw [call_some hc']; exact hh, fun k' g' c' args' l' hc' hsp' s' K' hh => by rw [call_split hc' hsp']; exact hh⟩ b _ _ hv _ _ w hok
    refine calls_of_wp hf hb (wp_mono hcode fun e a' w' hq => ?_)
    have fin : ∀ ρ' s', Ok w1 ρ' s' a' w' → (match resS X.E s' fn.results.toList with
        | some v => (match rdRes s' p.rs v with
          | some y => eqHL p.rs y (p.f x).2 ∧ leX s' (p.inv (p.f x).1)
          | none => False)
        | none => False) → a'.defers = [] ∧ ∃ v, (results fn a'.tmps).run P w' = .ok v w' ∧ ∃ v2 ρ2, Ending.returned v = Ending.returned v2 ∧ (∀ n, trkd (trks (p.inv x).heap) n = true → ρ2 n = ρ n) ∧
          Ok w0 ρ2 (hpOf (p.inv (p.f x).1).heap) { tmps := #[], defers := [] } w' ∧ ResV (fun _ => True) w' p.rs v2 (p.f x).2 := fun ρ' s' ho hr => by
      split at hr
      · rename_i sv hsv
        split at hr
        · rename_i y hy
          obtain ⟨hr1, hr2⟩ := hr
          have hyx := eqHL_eq hr1
          subst hyx
          obtain ⟨v, h1, h2⟩ := resS_c (P := P) h.ok.env ho hsv
          have hnm := sameNms_trks hsame
          obtain ⟨ρ3, h3, h4⟩ := leX_ok ho (v := p.inv (p.f x).1) (by
            show ((trks (p.inv x).heap).map (fun e => ρ e.1)).length = _
            have := congrArg List.length hnm
            simpa using this) hr2
          have hfin : Ok w0 ρ3 (hpOf (p.inv (p.f x).1).heap) { tmps := #[], defers := [] } w' :=
            { defers := rfl, below := h3.below, len := rfl, frame := h3.frame
              back := fun i => (by show SVc _ (lget [] i) _; unfold lget; cases i <;> trivial)
              heap := h3.heap, used := h3.used, fresh := h3.fresh, apart := h3.apart }
          refine ⟨ho.defers, v, h1, v, ρ3, rfl, fun k hk => ?_, hfin, rdRes_c ho (S := fun _ => True) (fun _ _ _ => trivial) hy h2⟩
          obtain ⟨he, hm, hs⟩ := trkd_iff.1 hk
          have hin : k ∈ (trks (p.inv x).heap).map (·.1) := by
            clear h4 hnm hok hbv hcode h2 h1 hy hsv hr2 hr1 ho hq hdist hsame h0 hv hb
            generalize (p.inv x).heap = l at hm hk
            clear hm
            induction l with
            | nil => cases hk
            | cons e r ih =>
              obtain ⟨j, q⟩ := e
              unfold trks at hk ⊢
              split at hk
              · rename_i p' hp'
                unfold trkd at hk
                cases eb : Nat.beq k j with
                | true => have := Nat.eq_of_beq_eq_true eb; subst this; simp [hp']
                | false => rw [eb] at hk; simp only [hp', List.map_cons, List.mem_cons]; exact .inr (ih hk)
              · exact ih hk
          obtain ⟨i, hi⟩ := List.mem_iff_getElem?.1 hin
          have hi2 := hi
          rw [hnm] at hi2
          rw [List.getElem?_map] at hi hi2
          cases he1 : (trks (p.inv x).heap)[i]? with
          | none => rw [he1] at hi; cases hi
          | some e1 =>
            cases he2 : (trks (p.inv (p.f x).1).heap)[i]? with
            | none => rw [he2] at hi2; cases hi2
            | some e2 =>
              rw [he1] at hi
              rw [he2] at hi2
              have k1 : e1.1 = k := by simpa using hi
              have k2 : e2.1 = k := by simpa using hi2
              have hsv2 := h4 i e2 he2
              obtain ⟨hh, _, hkk⟩ := trks_mem (List.mem_iff_getElem?.2 ⟨i, he2⟩)
              have := trk_eq hkk hsv2
              rw [hbv i e1 he1, k1, k2] at this
              exact this.symm
        · exact hr.elim
      · exact hr.elim
    cases e with
    | normal => obtain ⟨ρ', s', ho, hr⟩ := hq; exact fin ρ' s' ho hr
    | ret => obtain ⟨ρ', s', ho, hr⟩ := hq; exact fin ρ' s' ho hr
    | exit id => obtain ⟨ρ', s', ho, hr⟩ := hq; exact hr.elim
    | goto l => exact hq.elim
    | panic c => exact hq.elim
    | outgrown => exact hq.elim
  · exact hv.elim
theorem prc_of_vc {P : Program} {n g : Nat} {fn : Func} {p : Prc} {X : p.G → Fx} (hX : ∀ x, FxAll P (X x)) (hf : P.funcs[g]? = some fn) (hname : (fn.name == "runtime.NumGoroutine") = false) (hbody : fn.body.isNone = false)
    (hvc : ∀ x, p.pre x → p.lens x → vcPr (X x) n g fn p x) : PrcOk P g p :=
  ⟨⟨fn, hf, hname, hbody⟩, fun _ _ _ _ x h hp hl => prc_run (hX x) hf (hvc x hp hl) h⟩
/-- The same contract, asked of fewer. -/
def Prc.sub (p : Prc) (q : p.G → Prop) : Prc := { p with pre := fun x => p.pre x ∧ q x }
/-- A function that calls itself: for what is less by a measure it keeps the contract already. -/
theorem prc_of_vc_rec {P : Program} {n g : Nat} {fn : Func} {p : Prc} {X : p.G → Fx} (m : p.G → Nat) (hX : ∀ x, PrcOk P g (p.sub fun y => m y < m x) → FxAll P (X x)) (hf : P.funcs[g]? = some fn) (hname : (fn.name == "runtime.NumGoroutine") = false) (hbody : fn.body.isNone = false)
    (hvc : ∀ x, p.pre x → p.lens x → vcPr (X x) n g fn p x) : PrcOk P g p := by
  have key : ∀ N, PrcOk P g (p.sub fun y => m y < N) := fun N => by
    induction N with
    | zero => exact ⟨⟨fn, hf, hname, hbody⟩, fun _ _ _ _ x _ hp _ => absurd hp.2 (Nat.not_lt_zero _)⟩
    | succ N ih =>
      refine ⟨⟨fn, hf, hname, hbody⟩, fun w0 ρ w vs x h hp hl => ?_⟩
      have hlt : m x < N + 1 := hp.2
      have hx : PrcOk P g (p.sub fun y => m y < m x) := ⟨ih.1, fun w0 ρ w vs y h hp hl => ih.2 w0 ρ w vs y h ⟨hp.1, by
        have h1 : m y < m x := hp.2
        show m y < N
        omega⟩ hl⟩
      exact prc_run (p := p) (hX x hx) hf (hvc x hp.1 hl) h
  exact ⟨⟨fn, hf, hname, hbody⟩, fun w0 ρ w vs x h hp hl => (key (m x + 1)).2 w0 ρ w vs x h ⟨hp, Nat.lt_succ_self _⟩ hl⟩
end Go.Sx
