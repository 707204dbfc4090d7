/-
  Sx, part U: a region that draws its order does what the executor says.
-/
import Derived.Test.YtpnmfoojmodnlaaSxT
import Derived.Test.YtpnmfoojmodnlaaSxMD
import Derived.Orders
namespace Go.Sx

section
variable {P : Program} {X : Fx} {f nb : Nat} {all : List Oper} {ms : List Nat} {callK : Nat → Nat → List SV → St → (SV → St → Prop) → Prop}
  {w0 : Base} {w : World} {ρ : Nat → Value} {s s1 t : St} {a : Act}

/-- What has a contract is called by it. -/
def CtrBy (X : Fx) (callK : Nat → Nat → List SV → St → (SV → St → Prop) → Prop) : Prop :=
  (∀ k g c, X.K g = some c → ∀ args s K, ctrS c k s args K → callK k g args s K) ∧
  ∀ k g c args l, X.K g = none → splitF X g args = some (c, l) → ∀ s K, ctrS c k s l K → callK k g args s K

theorem ctrD_S {c : Ctr} {k : Nat} {args : List SV} {d : Option Nat} {p : Option Prop} (h : ctrD c k s args d = some (p, t)) (hp : vcP p) : ctrS c k s args (fun v s' => s'.put d v = t) := by
  unfold ctrD at h
  unfold ctrS
  cases ho : c.own with
  | true =>
    rw [ho] at h
    simp only [cond_true] at h ⊢
    cases hg : ownOk c.rs && !(s.us k) with
    | false => rw [hg] at h; cases h
    | true =>
      rw [hg] at h
      simp only [cond_true] at h ⊢
      cases hfl : ownFl c.rs with
      | true =>
        rw [hfl] at h
        simp only [cond_true] at h ⊢
        split at h
        · split at h
          · rename_i x hx v he hv
            cases h
            exact ⟨hp, rfl⟩
          · cases h
        · cases h
      | false =>
        rw [hfl] at h
        simp only [cond_false] at h ⊢
        split at h
        · split at h
          · split at h
            · cases h
              exact ⟨hp, rfl⟩
            · cases h
          · cases h
        · cases h
  | false =>
  rw [ho] at h
  simp only [cond_false] at h ⊢
  cases hn : c.rs.all noSl with
  | true =>
    rw [hn] at h
    simp only [cond_true] at h ⊢
    split at h
    · cases h
      exact ⟨hp, rfl⟩
    · cases h
  | false =>
    rw [hn] at h
    simp only [cond_false] at h ⊢
    split at h
    · split at h
      · cases h
        exact ⟨hp, rfl⟩
      · cases h
    · cases h
theorem stepD_op1 (hK : CtrBy X callK) {k : Nat} {o : Oper} {p : Option Prop} (h : stepD X f s k o = some (p, t)) (hp : vcP p) : op1 X callK f s k o (fun s' => s' = t) := by
  unfold op1
  have hpre : pre X f s o = s := by
    unfold pre
    unfold stepD at h
    cases hc : callee? s o.op with
    | none =>
      simp only []
      have hc1 : callee1 s o.op = none := by
        cases h1 : callee1 s o.op with
        | none => rfl
        | some ga =>
          obtain ⟨_, _, _, _, _, h2⟩ := callee1_some (g := ga.1) (args := ga.2) h1
          rw [hc] at h2; cases h2
      rw [hc1] at h
      simp only [] at h
      cases hf : (frzF X f o || poolM X f o) with
      | true => rw [hf] at h; cases h
      | false =>
        have hf := (Bool.or_eq_false_iff.1 hf).1
        unfold frzF at hf
        split
        · rename_i hop hd
          rw [hop, hd] at hf
          rw [show X.wr f _ = false from hf]; rfl
        · rename_i hop hd
          rw [hop, hd] at hf
          rw [show X.wr f _ = false from hf]; rfl
        · rfl
    | some ga =>
      obtain ⟨g, args⟩ := ga
      simp only []
      split
      · rename_i c hct
        cases hg : (bif c.own then !(ownFl c.rs) else !(c.rs.all noSl)) with
        | false => rfl
        | true =>
          cases hc1 : callee1 s o.op with
          | none =>
            rw [hc1] at h
            simp only [] at h
            exfalso
            revert h hc
            cases (frzF X f o || poolM X f o) with
            | true => intro h; cases h
            | false =>
            cases ho : o.op with
            | call c =>
              simp only [callee?, opS, ho, cond_false]
              cases hcc : c.callee with
              | value x => intro h; simp [builtS] at h
              | _ => intro _ h; cases h
            | _ => intro _ h; simp [callee?] at h
          | some ga' =>
            obtain ⟨g', args'⟩ := ga'
            have hc' : callee? s o.op = some (g', args') := by
              obtain ⟨_, _, _, _, _, h2⟩ := callee1_some hc1
              exact h2
            rw [hc] at hc'
            simp only [Option.some.injEq, Prod.mk.injEq] at hc'
            obtain ⟨rfl, rfl⟩ := hc'
            rw [hc1] at h
            simp only [] at h
            rw [hct] at h
            simp only [] at h
            unfold ctrD at h
            cases hown : c.own with
            | false =>
              rw [hown] at h hg
              simp only [cond_false, Bool.not_eq_true'] at h hg
              rw [hg] at h
              simp only [cond_false] at h
              split at h
              · rename_i hr; simp only [cond_true, hr]; rfl
              · cases h
            | true =>
              rw [hown] at h hg
              simp only [cond_true, Bool.not_eq_true'] at h hg
              rw [hg] at h
              cases hok : ownOk c.rs && !(s.us k) with
              | false => rw [hok] at h; cases h
              | true =>
                rw [hok] at h
                simp only [cond_true, cond_false] at h
                split at h
                · rename_i hr; simp only [cond_true, hr]; rfl
                · cases h
      · rfl
  rw [hpre]
  unfold stepD at h
  unfold op1b
  cases hc : callee1 s o.op with
  | some ga =>
    obtain ⟨g, args⟩ := ga
    rw [hc] at h
    simp only [] at h
    split at h
    · rename_i c hct
      have hc' : callee? s o.op = some (g, args) := by
        obtain ⟨_, _, _, _, _, h2⟩ := callee1_some hc
        exact h2
      rw [hc']
      exact hK.1 k g c hct args s _ (ctrD_S h hp)
    · rename_i hct
      split at h
      · rename_i c l hsp
        have hc' : callee? s o.op = some (g, args) := by
          obtain ⟨_, _, _, _, _, h2⟩ := callee1_some hc
          exact h2
        rw [hc']
        exact hK.2 k g c args l hct hsp s _ (ctrD_S h hp)
      · cases h
  | none =>
    rw [hc] at h
    simp only [] at h
    cases hf : (frzF X f o || poolM X f o) with
    | true => rw [hf] at h; cases h
    | false =>
    rw [hf] at h
    simp only [cond_false] at h
    cases hc' : callee? s o.op with
    | none =>
      simp only []
      rw [h, (Bool.or_eq_false_iff.1 hf).2]
      simp only [cond_false]
      cases p with
      | none => rfl
      | some p => exact ⟨hp, rfl⟩
    | some ga =>
      exfalso
      revert h hc'
      cases ho : o.op with
      | call c =>
        simp only [callee?, opS, ho]
        cases hcc : c.callee with
        | value x => intro h; simp [builtS] at h
        | _ => intro _ h; cases h
      | _ => intro _ h; cases h

theorem openS_ok {X : Fx} : ∀ (os : List Operand) {s : St}, Ok w0 ρ s a w → vcP (openS s os).2 → Ok w0 ρ (openS s os).1 a w ∧
    ((openS s os).1.hp = s.hp ∧ (openS s os).1.us = s.us ∧ (openS s os).1.nx = s.nx ∧ (openS s os).1.bk = s.bk ∧ (openS s os).1.fr.length = s.fr.length) ∧
    ∀ i, lget (openS s os).1.fr i = lget s.fr i ∨ ∃ b p, lget s.fr i = .cnd b p ∧ b = true ∧ lget (openS s os).1.fr i = .one p
  | [], s, h, _ => ⟨h, ⟨rfl, rfl, rfl, rfl, rfl⟩, fun _ => .inl rfl⟩
  | x :: r, s, h, hc => by
    cases x with
    | tmp t =>
      unfold openS at hc ⊢
      split
      · rename_i b p hbp
        rw [hbp] at hc
        simp only [] at hc ⊢
        have hb : b = true ∧ vcP (openS (s.put (some t) (.one p)) r).2 := by
          cases hq : (openS (s.put (some t) (.one p)) r).2 with
          | none => rw [hq] at hc; exact ⟨hc, trivial⟩
          | some q => rw [hq] at hc; exact hc
        have hf := h.frame t
        rw [hbp] at hf
        obtain ⟨h1, h2, h3⟩ := openS_ok (X := X) r (h.tell t (v := .one p) (hf.1 hb.1)) hb.2
        refine ⟨h1, ⟨h2.1, h2.2.1, h2.2.2.1, h2.2.2.2.1, by rw [h2.2.2.2.2]; exact lset_length _ _ _⟩, fun i => ?_⟩
        have hput : lget (s.put (some t) (.one p)).fr i = if t = i ∧ i < s.fr.length then .one p else lget s.fr i := lget_lset _ _ _ _
        by_cases e : t = i ∧ i < s.fr.length
        · rw [if_pos e] at hput
          obtain ⟨rfl, _⟩ := e
          refine .inr ⟨b, p, hbp, hb.1, ?_⟩
          rcases h3 t with h4 | ⟨b', p', h4, _⟩
          · rw [h4, hput]
          · rw [hput] at h4; cases h4
        · rw [if_neg e] at hput
          rcases h3 i with h4 | ⟨b', p', h4, h5, h6⟩
          · exact .inl (h4.trans hput)
          · exact .inr ⟨b', p', hput.symm.trans h4, h5, h6⟩
      · rename_i hno
        refine openS_ok (X := X) r h ?_
        revert hc
        split
        · rename_i b p hbp; exact absurd hbp (hno b p)
        · exact fun h => h
    | _ => exact openS_ok (X := X) r h hc
theorem light_put {k : Nat} {o : Oper} {p : Option Prop} {s2 : St} (hl : lightO X s k o = true) (h : stepD X f s k o = some (p, s2)) : ∃ v, s2 = s.put o.dst v := by
  unfold lightO at hl
  unfold stepD at h
  cases hc : callee1 s o.op with
  | some ga =>
    obtain ⟨g, args⟩ := ga
    rw [hc] at hl h
    simp only [] at hl h
    split at h
    · rename_i c hct
      rw [hct] at hl
      simp only [Bool.not_eq_true'] at hl
      unfold ctrD at h
      rw [hl] at h
      simp only [cond_false] at h
      cases hn : c.rs.all noSl with
      | true =>
        rw [hn] at h
        simp only [cond_true] at h
        split at h
        · cases h; exact ⟨_, rfl⟩
        · cases h
      | false =>
        rw [hn] at h
        simp only [cond_false] at h
        split at h
        · split at h
          · cases h; exact ⟨_, rfl⟩
          · cases h
        · cases h
    · rename_i hct
      rw [hct] at hl
      cases hl
  | none =>
    rw [hc] at hl h
    simp only [] at hl h
    cases hf : (frzF X f o || poolM X f o) with
    | true => rw [hf] at h; cases h
    | false =>
      rw [hf] at h
      simp only [cond_false] at h
      obtain ⟨v, hs, un, e1, _, e2, e3⟩ := opS_frame (s' := s) (fun _ _ => rfl) (fun _ _ => ⟨rfl, rfl⟩) h
      have hw0 : opW false s k o.op = [] := by simpa using hl
      have hw : opW (wrO (X.wr f) 3000000 o.dst) s k o.op = [] := by
        revert hw0
        cases o.op with
        | slice t x lo hi mx =>
          simp only [opW]
          split
          · intro h; cases h
          · intro h; cases h
          · intro _; rfl
        | buildSlice t n ps => intro h; cases h
        | _ => exact fun h => h
      rw [hw] at e2 e3
      have hs0 : hs = [] := by
        cases hs with
        | nil => rfl
        | cons x xs => have := e2 x (by simp); cases this
      have un0 : un = [] := by
        cases un with
        | nil => rfl
        | cons x xs => have := e3 x (by simp); cases this
      subst hs0; subst un0
      exact ⟨v, e1⟩
theorem gop_sound (hK : CtrBy X callK) {k : Nat} {o : Oper} {gb : Bool} {pp : Option Prop} {s' : St} (h : gop X f s k o gb = some (pp, s')) (hp : vcP pp) (hok : Ok w0 ρ s a w) :
    ∃ d q, o.dst = some d ∧ s' = s.put (some d) (.cnd gb q) ∧ (gb = true → ∃ s1 s2 ρ1, Ok w0 ρ1 s1 a w ∧ op1 X callK f s1 k o (fun t => t = s2) ∧ ∀ ρ' a' w', Ok w0 ρ' s2 a' w' → Ok w0 ρ' s' a' w') := by
  unfold gop at h
  split at h
  · rename_i d hd
    have key : ∀ s1 C, openS s (needOf o.op) = (s1, C) → (bif lightO X s1 k o then (match stepD X f s1 k o with
      | some (p, s2) => (match lget s2.fr d with
        | .one q => (match andO C p with
          | some p => some (some (gb = true → p), s.put (some d) (.cnd gb q))
          | none => some (none, s.put (some d) (.cnd gb q)))
        | _ => none)
      | none => none) else none) = some (pp, s') → ∃ d q, o.dst = some d ∧ s' = s.put (some d) (.cnd gb q) ∧ (gb = true → ∃ s1 s2 ρ1, Ok w0 ρ1 s1 a w ∧ op1 X callK f s1 k o (fun t => t = s2) ∧ ∀ ρ' a' w', Ok w0 ρ' s2 a' w' → Ok w0 ρ' s' a' w') := by
      intro s1 C hop h
      cases hl : lightO X s1 k o with
      | false => rw [hl] at h; cases h
      | true =>
        rw [hl] at h
        simp only [cond_true] at h
        split at h
        · rename_i p s2 hst
          split at h
          · rename_i q hq
            have hfin : s' = s.put (some d) (.cnd gb q) ∧ (gb = true → vcP C ∧ vcP p) := by
              cases C with
              | none => cases p with
                | none => simp only [andO, Option.some.injEq, Prod.mk.injEq] at h; exact ⟨h.2.symm, fun _ => ⟨trivial, trivial⟩⟩
                | some p => simp only [andO, Option.some.injEq, Prod.mk.injEq] at h; obtain ⟨e1, e2⟩ := h; subst e1; exact ⟨e2.symm, fun e => ⟨trivial, hp e⟩⟩
              | some C => cases p with
                | none => simp only [andO, Option.some.injEq, Prod.mk.injEq] at h; obtain ⟨e1, e2⟩ := h; subst e1; exact ⟨e2.symm, fun e => ⟨hp e, trivial⟩⟩
                | some p => simp only [andO, Option.some.injEq, Prod.mk.injEq] at h; obtain ⟨e1, e2⟩ := h; subst e1; exact ⟨e2.symm, hp⟩
            obtain ⟨rfl, hcp⟩ := hfin
            refine ⟨d, q, hd, rfl, fun hgb => ?_⟩
            obtain ⟨hC, hpp⟩ := hcp hgb
            have hC' : vcP (openS s (needOf o.op)).2 := by rw [hop]; exact hC
            obtain ⟨hok1, hsame, hslots⟩ := openS_ok (X := X) (needOf o.op) hok hC'
            rw [hop] at hok1 hsame hslots
            simp only [] at hok1 hsame hslots
            refine ⟨s1, s2, ρ, hok1, stepD_op1 hK hst hpp, fun ρ' a' w' ho => ?_⟩
            obtain ⟨v, rfl⟩ := light_put hl hst
            rw [hd] at ho hq
            have hcx : cx w0 ρ' (s1.put (some d) v) w' = cx w0 ρ' (s.put (some d) (.cnd gb q)) w' := by
              show (⟨ρ', s1.us, Free w0 ρ' s1.hp w', w'⟩ : Cx) = ⟨ρ', s.us, Free w0 ρ' s.hp w', w'⟩
              rw [hsame.1, hsame.2.1]
            have hlen : (lset s1.fr d v).length = (lset s.fr d (.cnd gb q)).length := by rw [lset_length, lset_length, hsame.2.2.2.2]
            have hl1 : (lset s1.fr d v).length = a'.tmps.size := ho.len
            have hfr := ho.frame
            have hbk := ho.back
            have hhp := ho.heap
            have hus := ho.used
            have hfs := ho.fresh
            have hap := ho.apart
            rw [hcx] at hfr hbk hhp
            refine { defers := ho.defers, below := ho.below, len := hlen.symm.trans hl1, frame := fun i => ?_, back := fun i => ?_, heap := ?_, used := ?_, fresh := ?_, apart := ?_ }
            · have h2 := hfr i
              have e1 : lget (s1.put (some d) v).fr i = if d = i ∧ i < s1.fr.length then v else lget s1.fr i := lget_lset _ _ _ _
              have e2 : lget (s.put (some d) (.cnd gb q)).fr i = if d = i ∧ i < s.fr.length then .cnd gb q else lget s.fr i := lget_lset _ _ _ _
              rw [hsame.2.2.2.2] at e1
              by_cases e : d = i ∧ i < s.fr.length
              · rw [if_pos e] at e1 e2
                obtain ⟨rfl, _⟩ := e
                rw [hq] at h2
                rw [e2]
                exact ⟨fun _ => h2, fun e => by rw [hgb] at e; cases e⟩
              · rw [if_neg e] at e1 e2
                rw [e2]
                rw [e1] at h2
                rcases hslots i with h3 | ⟨b, p', h3, h4, h5⟩
                · rw [h3] at h2; exact h2
                · rw [h5] at h2
                  rw [h3]
                  exact ⟨fun _ => h2, fun e => by rw [h4] at e; cases e⟩
            · have := hbk i
              have e : (s1.put (some d) v).bk = s.bk := hsame.2.2.2.1
              rw [e] at this
              exact this
            · intro n he hn
              exact hhp n he (by show s1.hp n = some he; rw [hsame.1]; exact hn)
            · intro n he hn
              have := hus n he (by show s1.hp n = some he; rw [hsame.1]; exact hn)
              have e : (s1.put (some d) v).us = s.us := hsame.2.1
              rw [e] at this
              exact this
            · intro n he b hn
              exact hfs n he b (by show s1.hp n = some he; rw [hsame.1]; exact hn)
            · intro n n' h1 h2 b hne hn hn'
              exact hap n n' h1 h2 b hne (by show s1.hp n = some h1; rw [hsame.1]; exact hn) (by show s1.hp n' = some h2; rw [hsame.1]; exact hn')
          · cases h
        · cases h
    exact key _ _ rfl h
  · cases h
theorem gate_c {o : Oper} {j d : Nat} {want gb : Bool} {v : SV} (hd : dstAt all j = some d) (hg : o.guard = some (j, want)) (h : gateV want v = some gb) (hv : SVc (cx w0 ρ s w) v (a.tmps.getD d undef)) :
    Region.wanted o (yielded all.toArray a.tmps) = gb := by
  have one : ∀ b, a.tmps.getD d undef = .bool b → Region.wanted o (yielded all.toArray a.tmps) = bif want then b else !b := fun b hb => by
    have hy := yield_bool hd hb
    simp only [Region.wanted, hg, hy]
    cases b <;> cases want <;> rfl
  unfold gateV at h
  split at h
  · rename_i b
    simp only [Option.some.injEq] at h
    subst h
    have hb : [a.tmps.getD d undef] = [.bool b] := SVc.one1 rfl (by simp) hv
    exact one b (by simpa using hb)
  · rename_i b1 u
    simp only [Option.some.injEq] at h
    subst h
    cases b1 with
    | true =>
      have hb : [a.tmps.getD d undef] = [.bool u] := SVc.one1 (p := .d .bool u) rfl (by simp) (hv.1 rfl)
      rw [one u (by simpa using hb)]
      rfl
    | false =>
      simp [Region.wanted, hg, yield_none hd (hv.2 rfl)]
  · cases h

theorem op1o_open {k : Nat} {o : Oper} {K : St → Prop} (h : op1o X callK f s k o K) (hok : Ok w0 ρ s a w) : ∃ s1, Ok w0 ρ s1 a w ∧ op1 X callK f s1 k o K := by
  unfold op1o at h
  cases hop : openS s (needOf o.op) with
  | mk s1 C =>
    rw [hop] at h
    have hC' : vcP (openS s (needOf o.op)).2 := by
      rw [hop]
      cases C with
      | none => trivial
      | some c => exact h.1
    obtain ⟨hok1, _, _⟩ := openS_ok (X := X) (needOf o.op) hok hC'
    rw [hop] at hok1
    cases C with
    | none => exact ⟨s1, hok1, h⟩
    | some c => exact ⟨s1, hok1, h.2⟩
theorem gop1_some {k : Nat} {o : Oper} {gb : Bool} {r : Option Prop × St} (h : gop1 X f s k o gb = some r) : gop X f s k o gb = some r := by
  unfold gop1 at h
  cases hm : wrO (X.wr f) 10000000 o.dst with
  | true => rw [hm] at h; cases h
  | false => rw [hm] at h; exact h
theorem ops_sound {all : List Oper} {nb : Nat} {K : St → Prop} {Q : Exit → Act → World → Prop} (hX : FxOk P X) (hcall : CallOk P callK) (hCB : CtrBy X callK)
    (hQ : ∀ ρ' s' a' w', Ok w0 ρ' s' a' w' → K s' → Q .normal a' w') :
    ∀ (r : List Oper) (i : Nat) (s : St) (ρ : Nat → Value) (a : Act) (w : World), ops X callK f all nb i r s K → Ok w0 ρ s a w → wpList P all.toArray Q r a w
  | [], i, s, ρ, a, w, h, hok => hQ ρ s a w hok h
  | o :: r, i, s, ρ, a, w, h, hok => by
    unfold ops at h
    have skip : Region.wanted o (yielded all.toArray a.tmps) = false → ops X callK f all nb (i + 1) r (s.put o.dst (.tup [])) K → wpList P all.toArray Q (o :: r) a w := fun hw hr => by
      unfold wpList
      rw [hw]
      simp only [Bool.false_eq_true, if_false]
      exact ops_sound hX hcall hCB hQ r (i + 1) _ ρ _ w hr (hok.put o.dst sv_undef)
    have run : ∀ s1 ρ1, Ok w0 ρ1 s1 a w → Region.wanted o (yielded all.toArray a.tmps) = true → op1 X callK f s1 (nb + i) o (fun s => ops X callK f all nb (i + 1) r s K) → wpList P all.toArray Q (o :: r) a w := fun s1 ρ1 hok1 hw hr => by
      unfold wpList
      rw [hw]
      simp only [if_true]
      exact .inl (op1_sound hX hcall hok1 hr (fun ρ' s' a' w' hok' hK => ops_sound hX hcall hCB hQ r (i + 1) s' ρ' a' w' hK hok'))
    split at h
    · rename_i hg
      exact run s ρ hok (by simp [Region.wanted, hg]) h
    · rename_i j want hg
      split at h
      · rename_i d hd
        have hv := hok.frame d
        split at h
        · rename_i b hsl
          rw [hsl] at hv
          have hb : [a.tmps.getD d undef] = [.bool b] := SVc.one1 rfl (by simp) hv
          simp only [List.cons.injEq, and_true] at hb
          have hy := yield_bool hd hb
          cases hx : Bool.xor b want with
          | true =>
            rw [hx] at h
            refine skip ?_ h
            simp only [Region.wanted, hg, hy]
            cases b <;> cases want <;> first | rfl | cases hx
          | false =>
            rw [hx] at h
            obtain ⟨s1, hok1, h⟩ := op1o_open h hok
            refine run s1 ρ hok1 ?_ h
            simp only [Region.wanted, hg, hy]
            cases b <;> cases want <;> first | rfl | cases hx
        · rename_i hsl
          rw [hsl] at hv
          obtain ⟨vs, hvs, he⟩ := hv
          have hu : a.tmps.getD d undef = undef := by
            rw [hvs]
            have he : vs.toList = [] := he
            have : vs = #[] := by simpa using he
            rw [this]; rfl
          refine skip ?_ h
          simp [Region.wanted, hg, yield_none hd hu]
        · split at h
          · rename_i gb hgate
            have hwant := gate_c (o := o) (all := all) hd hg hgate hv
            have go : ∀ pp s', gop1 X f s (nb + i) o gb = some (pp, s') → vcP pp → ops X callK f all nb (i + 1) r s' K → wpList P all.toArray Q (o :: r) a w := fun pp s' hgo hpp hr => by
              obtain ⟨dd, q, hdd, hs', hrun⟩ := gop_sound hCB (gop1_some hgo) hpp hok
              cases gb with
              | true =>
                obtain ⟨s1, s2, ρ1, hok1, h1, hback⟩ := hrun rfl
                unfold wpList
                rw [hwant]
                simp only [if_true]
                exact .inl (op1_sound hX hcall hok1 h1 (fun ρ' t a' w' hok' hK' => by
                  subst hK'
                  exact ops_sound hX hcall hCB hQ r (i + 1) s' ρ' a' w' hr (hback ρ' a' w' hok')))
              | false =>
                unfold wpList
                rw [hwant]
                simp only [Bool.false_eq_true, if_false]
                subst hs'
                rw [hdd]
                exact ops_sound hX hcall hCB hQ r (i + 1) _ ρ _ w hr (hok.put (some dd) ⟨fun e => (by cases e), fun _ => rfl⟩)
            split at h
            · rename_i pp s' hgo
              exact go _ s' hgo h.1 h.2
            · rename_i s' hgo
              exact go _ s' hgo trivial h
            · split at h
              · rename_i b hsl
                rw [hsl] at hv
                have hb : [a.tmps.getD d undef] = [.bool b] := SVc.one1 rfl (by simp) hv
                simp only [List.cons.injEq, and_true] at hb
                have hy := yield_bool hd hb
                by_cases e : b = want
                · have hok1 := hok.tell d (v := .one (.lit want)) (by rw [hb, e]; exact sv_lit want)
                  obtain ⟨s1, hok2, h2⟩ := op1o_open (h.1 e) hok1
                  exact run s1 ρ hok2 (by simp [Region.wanted, hg, hy, e]) h2
                · have e' : b = !want := by cases b <;> cases want <;> first | rfl | exact absurd rfl e
                  have hok1 := hok.tell d (v := .one (.lit !want)) (by rw [hb, e']; exact sv_lit _)
                  have hw : Region.wanted o (yielded all.toArray a.tmps) = false := by
                    simp only [Region.wanted, hg, hy, e']
                    cases want <;> rfl
                  unfold wpList
                  rw [hw]
                  simp only [Bool.false_eq_true, if_false]
                  exact ops_sound hX hcall hCB hQ r (i + 1) _ ρ _ w (h.2 e') (hok1.put o.dst sv_undef)
              · exact h.elim
          · exact h.elim
      · exact h.elim

/-- Is the operation wanted? -/
theorem gd_ok {o : Oper} {b : Bool} (hok : Ok w0 ρ s a w) (h : gd all o s = some (b, s1)) : Region.wanted o (yielded all.toArray a.tmps) = b ∧ Ok w0 ρ s1 a w := by
  unfold gd at h
  split at h
  · rename_i hg
    cases h
    exact ⟨by simp [Region.wanted, hg], hok⟩
  · rename_i j want hg
    split at h
    · rename_i d hd
      have hv := hok.frame d
      split at h
      · rename_i c hc
        cases h
        rw [hc] at hv
        have hb : [a.tmps.getD d undef] = [.bool c] := SVc.one1 rfl (by simp) hv
        simp only [List.cons.injEq, and_true] at hb
        have hy := yield_bool hd hb
        exact ⟨by simp only [Region.wanted, hg, hy]; cases c <;> cases want <;> rfl, hok.tell d (v := .one (.lit c)) (by rw [hb]; exact sv_lit c)⟩
      · rename_i c hc
        cases h
        rw [hc] at hv
        have hb : [a.tmps.getD d undef] = [.bool c] := SVc.one1 rfl (by simp) hv
        simp only [List.cons.injEq, and_true] at hb
        have hy := yield_bool hd hb
        exact ⟨by simp only [Region.wanted, hg, hy]; cases c <;> cases want <;> rfl, hok.tell d (v := .one (.lit c)) (by rw [hb]; exact sv_lit c)⟩
      · rename_i hc
        cases h
        rw [hc] at hv
        obtain ⟨vs, hvs, he⟩ := hv
        have hu : a.tmps.getD d undef = undef := by
          rw [hvs]
          have he : vs.toList = [] := he
          have : vs = #[] := by simpa using he
          rw [this]; rfl
        exact ⟨by simp [Region.wanted, hg, yield_none hd hu], hok⟩
      · cases h
    · cases h

theorem dstep_sound {i : Nat} {o : Oper} {p : Option Prop} {F W : List Nat} {N : Act → World → Prop} {Q : Exit → Act → World → Prop} (hX : FxOk P X) (hcall : CallOk P callK) (hK : CtrBy X callK)
    (ho : all[i]? = some o) (hok : Ok w0 ρ s a w) (h : dstep X f nb all i o s = some (p, t, F, W)) (hp : vcP p) (hN : ∀ ρ' a' w', Ok w0 ρ' t a' w' → N a' w') : wpOp P all.toArray Q i N a w := by
  unfold wpOp
  have ho' : all.toArray[i]? = some o := by simpa using ho
  rw [ho']
  simp only []
  unfold dstep at h
  split at h
  · rename_i s1 hgd
    obtain ⟨hw, hok1⟩ := gd_ok hok hgd
    rw [hw]
    simp only [if_true]
    split at h
    · rename_i pp tt hst
      cases h
      exact .inl (op1_sound hX hcall hok1 (stepD_op1 hK hst hp) (fun ρ' s' a' w' hok' hs => hN ρ' a' w' (hs ▸ hok')))
    · cases h
  · rename_i s1 hgd
    obtain ⟨hw, hok1⟩ := gd_ok hok hgd
    rw [hw]
    simp only [Bool.false_eq_true, if_false]
    cases h
    exact hN ρ _ _ (hok1.put o.dst sv_undef)
  · cases h

/-! ### The orders. -/
theorem numbered_get : ∀ {l : List Oper} {n i : Nat} {o : Oper}, (i, o) ∈ numbered n l ↔ n ≤ i ∧ l[i - n]? = some o
  | [], _, _, _ => by simp [numbered]
  | x :: l, n, i, o => by
    simp only [numbered, List.mem_cons, Prod.mk.injEq, numbered_get (l := l)]
    constructor
    · rintro (⟨rfl, rfl⟩ | ⟨h1, h2⟩)
      · simp
      · refine ⟨by omega, ?_⟩
        rw [show i - n = (i - (n + 1)) + 1 by omega]; simpa using h2
    · rintro ⟨h1, h2⟩
      by_cases e : i = n
      · subst e; simp at h2; exact .inl ⟨rfl, h2.symm⟩
      · right
        refine ⟨by omega, ?_⟩
        rw [show i - n = (i - (n + 1)) + 1 by omega] at h2; simpa using h2
theorem numbered_sorted : ∀ {l : List Oper} {n : Nat}, (numbered n l).Pairwise (fun x y => x.1 < y.1)
  | [], _ => List.Pairwise.nil
  | x :: l, n => List.Pairwise.cons (fun e he => by
      obtain ⟨i, o⟩ := e
      have := (numbered_get.1 he).1
      show n < i
      omega) numbered_sorted

structure Stat (all : List Oper) (ms : List Nat) : Prop where
  after : ∀ j x, all[j]? = some x → ∀ e ∈ x.after, Region.binds .any e = true → e.on < j
  anc : ∀ i j x y, all[j]? = some x → all[i]? = some y → i < j → Nat.testBit (mget ms j) i = true → ∃ e ∈ x.after, Region.binds .any e = true ∧ (e.on = i ∨ (i < e.on ∧ Nat.testBit (mget ms e.on) i = true))
  apart : ∀ i j x y, all[j]? = some x → all[i]? = some y → i < j → Nat.testBit (mget ms j) i = false → sapart all y x = true

theorem statJ_spec {j : Nat} {x : Oper} : ∀ {l : List (Nat × Oper)}, l.Pairwise (fun x y => x.1 < y.1) → statJ all ms j x l = true → ∀ i y, (i, y) ∈ l → i < j →
    (bif Nat.testBit (mget ms j) i then x.after.toList.any (fun e => Region.binds .any e && (Nat.beq e.on i || (Nat.blt i e.on && Nat.testBit (mget ms e.on) i))) else sapart all y x) = true
  | [], _, _, _, _, h, _ => by cases h
  | (i', y') :: r, hs, h, i, y, hm, hij => by
    unfold statJ at h
    cases hb : Nat.blt i' j with
    | false =>
      have hlt : ¬ i' < j := fun hh => by
        have : Nat.blt i' j = true := by simpa using hh
        rw [this] at hb; cases hb
      rcases List.mem_cons.1 hm with e | hm
      · cases e; exact absurd hij hlt
      · have := (List.pairwise_cons.1 hs).1 _ hm
        omega
    | true =>
      rw [hb] at h
      simp only [cond_true] at h
      generalize hc : (bif Nat.testBit (mget ms j) i' then x.after.toList.any (fun e => Region.binds .any e && (Nat.beq e.on i' || (Nat.blt i' e.on && Nat.testBit (mget ms e.on) i'))) else sapart all y' x) = c at h
      cases c with
      | false => cases h
      | true =>
        rcases List.mem_cons.1 hm with e | hm
        · cases e; exact hc
        · exact statJ_spec (List.pairwise_cons.1 hs).2 h i y hm hij
theorem statOk_spec' {ns : List (Nat × Oper)} : ∀ {l : List (Nat × Oper)}, statOk all ms ns l = true → ∀ j x, (j, x) ∈ l →
    x.after.toList.all (fun e => bif Region.binds .any e then Nat.blt e.on j else true) = true ∧ statJ all ms j x ns = true
  | [], _, _, _, h => by cases h
  | (j', x') :: r, h, j, x, hm => by
    unfold statOk at h
    cases hb : (x'.after.toList.all (fun e => bif Region.binds .any e then Nat.blt e.on j' else true) && statJ all ms j' x' ns) with
    | false => rw [hb] at h; cases h
    | true =>
      rw [hb] at h
      rcases List.mem_cons.1 hm with e | hm
      · cases e; simpa using hb
      · exact statOk_spec' h j x hm
theorem statOk_spec (h : statOk all ms (numbered 0 all) (numbered 0 all) = true) : Stat all ms := by
  have key := fun j x (hj : all[j]? = some x) => statOk_spec' h j x (numbered_get.2 ⟨Nat.zero_le _, by simpa using hj⟩)
  have keyJ := fun i j x y (hj : all[j]? = some x) (hi : all[i]? = some y) (hij : i < j) => statJ_spec numbered_sorted (key j x hj).2 i y (numbered_get.2 ⟨Nat.zero_le _, by simpa using hi⟩) hij
  refine ⟨fun j x hj e he hb => ?_, fun i j x y hj hi hij ht => ?_, fun i j x y hj hi hij ht => ?_⟩
  · have := List.all_eq_true.1 (key j x hj).1 e (by simpa using he)
    rw [hb] at this
    simpa using this
  · have := keyJ i j x y hj hi hij
    rw [ht] at this
    simp only [cond_true] at this
    obtain ⟨e, he, hh⟩ := List.any_eq_true.1 this
    simp only [Bool.and_eq_true, Bool.or_eq_true] at hh
    exact ⟨e, by simpa using he, hh.1, hh.2.imp (fun h => Nat.eq_of_beq_eq_true h) (fun h => ⟨by simpa using h.1, h.2⟩)⟩
  · have := keyJ i j x y hj hi hij
    rw [ht] at this
    exact this

structure Listed (all : List Oper) (listed : Array Bool) (rest : List (Nat × Oper)) : Prop where
  size : listed.size = all.length
  mem : ∀ i o, (i, o) ∈ rest ↔ all[i]? = some o ∧ listed.getD i true = false
  sorted : rest.Pairwise (fun x y => x.1 < y.1)
  closed : ∀ i o, all[i]? = some o → listed.getD i false = true → ∀ e ∈ o.after, Region.binds .any e = true → listed.getD e.on false = true

theorem getD_flip {listed : Array Bool} {i : Nat} (hi : i < listed.size) : listed.getD i true = listed.getD i false := by
  simp [Array.getD, hi]
theorem lt_of_get {i : Nat} {o : Oper} (h : all[i]? = some o) : i < all.length := (List.getElem?_eq_some_iff.1 h).1

/-- What comes ahead of a listed operation is listed. -/
theorem anc_listed {listed : Array Bool} {rest : List (Nat × Oper)} (hs : Stat all ms) (hl : Listed all listed rest) : ∀ (j i : Nat) (x y : Oper), all[j]? = some x → all[i]? = some y → i < j →
    (∀ e ∈ x.after, Region.binds .any e = true → listed.getD e.on false = true) → Nat.testBit (mget ms j) i = true → listed.getD i false = true := by
  intro j
  induction j using Nat.strongRecOn with
  | _ j ih =>
    intro i x y hj hi hij hd ht
    obtain ⟨e, he, hb, h⟩ := hs.anc i j x y hj hi hij ht
    have hlist := hd e he hb
    rcases h with h | h
    · rw [← h]; exact hlist
    · have hej := hs.after j x hj e he hb
      have hlt : e.on < all.length := Nat.lt_trans hej (lt_of_get hj)
      obtain ⟨z, hz⟩ : ∃ z, all[e.on]? = some z := ⟨_, List.getElem?_eq_getElem hlt⟩
      exact ih e.on hej i z y hz hi h.1 (hl.closed e.on z hz hlist) h.2

theorem listed_next {listed : Array Bool} {l1 l2 : List (Nat × Oper)} {j : Nat} {x : Oper} (hl : Listed all listed (l1 ++ (j, x) :: l2))
    (hd : ∀ e ∈ x.after, Region.binds .any e = true → listed.getD e.on false = true) : Listed all (listed.setIfInBounds j true) (l1 ++ l2) := by
  have hj := (hl.mem j x).1 (by simp)
  have hjs : j < listed.size := by rw [hl.size]; exact lt_of_get hj.1
  have hpw := hl.sorted
  rw [List.pairwise_append] at hpw
  refine ⟨by simpa using hl.size, fun i o => ?_, ?_, fun i o hi hli e he hb => ?_⟩
  · by_cases e : i = j
    · subst e
      have e1 : (listed.setIfInBounds i true).getD i true = true := by simp
      rw [e1]
      refine ⟨fun h => ?_, fun h => by simp at h⟩
      exfalso
      rcases List.mem_append.1 h with h | h
      · have := hpw.2.2 _ h (i, x) (by simp)
        exact Nat.lt_irrefl _ this
      · have := (List.pairwise_cons.1 hpw.2.1).1 _ h
        exact Nat.lt_irrefl _ this
    · have e1 : (listed.setIfInBounds j true).getD i true = listed.getD i true := getD_set_ne true (Ne.symm e)
      rw [e1, ← hl.mem i o]
      simp [e]
  · exact List.pairwise_append.2 ⟨hpw.1, (List.pairwise_cons.1 hpw.2.1).2, fun a ha b hb => hpw.2.2 a ha b (by simp [hb])⟩
  · refine getD_set_true ?_
    by_cases e' : i = j
    · subst e'
      have : o = x := by rw [hj.1] at hi; cases hi; rfl
      subst this
      exact hd e he hb
    · rw [getD_set_ne false (Ne.symm e')] at hli
      exact hl.closed i o hi hli e he hb

theorem wpAny_drun {K : St → Prop} {Q : Exit → Act → World → Prop} (hX : FxOk P X) (hcall : CallOk P callK) (hK : CtrBy X callK) (hs : Stat all ms)
    (hQ : ∀ ρ' s' a' w', Ok w0 ρ' s' a' w' → K s' → Q .normal a' w') :
    ∀ (fuel : Nat) (listed : Array Bool) (rest : List (Nat × Oper)) (acc : List Rec) (s : St) (ρ : Nat → Value) (a : Act) (w : World), Listed all listed rest → rest.length ≤ fuel →
      drunR X f nb all ms rest acc s K → Ok w0 ρ s a w → wpAny P .any all.toArray Q fuel listed a w := by
  have ready_mem : ∀ {listed : Array Bool} {rest : List (Nat × Oper)}, Listed all listed rest → ∀ i, i ∈ Region.ready .any all.toArray listed →
      ∃ x, (i, x) ∈ rest ∧ ∀ e ∈ x.after, Region.binds .any e = true → listed.getD e.on false = true := fun hl i hi => by
    obtain ⟨h0, x, hx, he⟩ := mem_ready.1 hi
    exact ⟨x, (hl.mem i x).2 ⟨by simpa using hx, h0⟩, he⟩
  have empty : ∀ {listed : Array Bool} {rest : List (Nat × Oper)}, Listed all listed rest → Region.ready .any all.toArray listed = [] → rest = [] := fun {listed} {rest} hl hr => by
    cases rest with
    | nil => rfl
    | cons ix r =>
      exfalso
      obtain ⟨i, x⟩ := ix
      have hi := (hl.mem i x).1 (by simp)
      have : i ∈ Region.ready .any all.toArray listed := mem_ready.2 ⟨hi.2, x, by simpa using hi.1, fun e he hb => by
        have hlt := hs.after i x hi.1 e he hb
        have hlt' : e.on < all.length := Nat.lt_trans hlt (lt_of_get hi.1)
        have hsz : e.on < listed.size := by rw [hl.size]; exact hlt'
        cases hb' : listed.getD e.on false with
        | true => rfl
        | false =>
          have hm := (hl.mem e.on all[e.on]).2 ⟨List.getElem?_eq_getElem hlt', by rw [getD_flip hsz]; exact hb'⟩
          rcases List.mem_cons.1 hm with h | h
          · have : e.on = i := congrArg (·.1) h
            omega
          · have := (List.pairwise_cons.1 hl.sorted).1 _ h
            have : i < e.on := this
            omega⟩
      rw [hr] at this; cases this
  intro fuel
  induction fuel with
  | zero =>
    intro listed rest acc s ρ a w hl hf h hok
    have : rest = [] := List.eq_nil_of_length_eq_zero (by omega)
    subst this
    refine ⟨?_, hQ ρ s a w hok h⟩
    cases hr : Region.ready .any all.toArray listed with
    | nil => rfl
    | cons i r =>
      obtain ⟨x, hx, _⟩ := ready_mem hl i (by rw [hr]; simp)
      cases hx
  | succ fuel ih =>
    intro listed rest acc s ρ a w hl hf h hok
    refine ⟨fun hr => ?_, fun j hj => ?_⟩
    · have := empty hl hr
      subst this
      exact hQ ρ s a w hok h
    · obtain ⟨x, hx, hd⟩ := ready_mem hl j hj
      obtain ⟨l1, l2, rfl⟩ := List.append_of_mem hx
      have hjx := (hl.mem j x).1 hx
      have hpw := hl.sorted
      rw [List.pairwise_append] at hpw
      have hap : ∀ e ∈ l1, sapart all e.2 x = true ∧ ord ms j e.1 = false ∧ ord ms e.1 j = false := by
        rintro ⟨i, y⟩ he
        have hij : i < j := hpw.2.2 _ he (j, x) (by simp)
        have hiy := (hl.mem i y).1 (by simp [he])
        have hsz : i < listed.size := by rw [hl.size]; exact lt_of_get hiy.1
        have hbit : Nat.testBit (mget ms j) i = false := by
          cases hb : Nat.testBit (mget ms j) i with
          | false => rfl
          | true =>
            have := anc_listed hs hl j i x y hjx.1 hiy.1 hij hd hb
            rw [← getD_flip hsz, hiy.2] at this
            cases this
        have h1 : Nat.blt i j = true := by simpa using hij
        have h2 : Nat.blt j i = false := by
          cases hb : Nat.blt j i with
          | false => rfl
          | true =>
            have : j < i := by simpa using hb
            omega
        exact ⟨hs.apart i j x y hjx.1 hiy.1 hij hbit, by simp only [ord, h2, cond_false]; exact hbit, by simp only [ord, h1, cond_true]; exact hbit⟩
      obtain ⟨p, t, F, W, e1, _, e3, e4⟩ := bubble hap h
      refine dstep_sound hX hcall hK hjx.1 hok e1 e3 fun ρ' a' w' hok' => ?_
      refine ih _ _ _ _ ρ' a' w' (listed_next hl hd) ?_ e4 hok'
      simp only [List.length_append, List.length_cons] at hf ⊢
      omega

theorem drawn_sound {id : Nat} {os : Array Oper} {s : St} {K : St → Prop} {Q : Exit → Act → World → Prop} (hX : FxOk P X) (hcall : CallOk P callK) (hK : CtrBy X callK)
    (hQ : ∀ ρ' s' a' w', Ok w0 ρ' s' a' w' → K s' → Q .normal a' w') (h : drawn X f os.toList s K) (hok : Ok w0 ρ s a w) : (Code.region id os true).wp P Q a w := by
  refine wp_region_any hX.mixed ?_
  unfold drawn at h
  simp only [] at h
  generalize masks os.toList [] = ms at h
  cases hst : statOk os.toList ms (numbered 0 os.toList) (numbered 0 os.toList) with
  | false => rw [hst] at h; exact h.elim
  | true =>
    rw [hst] at h
    simp only [cond_true] at h
    have hok1 : Ok w0 ρ { s with nx := s.nx + os.toList.length } a { w with drawn := w.drawn + 1 } := by
      have : Ok w0 ρ { s with nx := s.nx + os.toList.length } a w := { hok with }
      exact this.more (More.drew w)
    have hl : Listed os.toList (Array.replicate os.size false) (numbered 0 os.toList) := by
      refine ⟨by simp, fun i o => ?_, numbered_sorted, fun i o hi hli => ?_⟩
      · rw [numbered_get]
        simp only [Nat.zero_le, Nat.sub_zero, true_and]
        constructor
        · intro h
          have := lt_of_get h
          refine ⟨h, ?_⟩
          have hlt : i < os.size := by simpa using this
          simp [hlt]
        · exact fun h => h.1
      · exfalso
        have := lt_of_get hi
        have hlt : i < os.size := by simpa using this
        simp [hlt] at hli
    have hlen : (numbered 0 os.toList).length ≤ os.size := by
      have : ∀ (l : List Oper) (n : Nat), (numbered n l).length = l.length := fun l => by
        induction l with
        | nil => intro n; rfl
        | cons x l ih => intro n; simp [numbered, ih]
      rw [this]; simp
    have := wpAny_drun (f := f) (nb := s.nx) (Q := Q) hX hcall hK (statOk_spec hst) hQ os.size _ _ [] _ ρ a _ hl hlen (drun_R _ _ _ h) hok1
    simpa using this
theorem ready_rest {listed : Array Bool} {rest : List (Nat × Oper)} (hl : Listed all listed rest) (i : Nat) (hi : i ∈ Region.ready .any all.toArray listed) :
    ∃ x, (i, x) ∈ rest ∧ ∀ e ∈ x.after, Region.binds .any e = true → listed.getD e.on false = true := by
  obtain ⟨h0, x, hx, he⟩ := mem_ready.1 hi
  exact ⟨x, (hl.mem i x).2 ⟨by simpa using hx, h0⟩, he⟩
theorem rest_empty {listed : Array Bool} {rest : List (Nat × Oper)} (hs : Stat all ms) (hl : Listed all listed rest) (hr : Region.ready .any all.toArray listed = []) : rest = [] := by
  cases rest with
  | nil => rfl
  | cons ix r =>
    exfalso
    obtain ⟨i, x⟩ := ix
    have hi := (hl.mem i x).1 (by simp)
    have : i ∈ Region.ready .any all.toArray listed := mem_ready.2 ⟨hi.2, x, by simpa using hi.1, fun e he hb => by
      have hlt := hs.after i x hi.1 e he hb
      have hlt' : e.on < all.length := Nat.lt_trans hlt (lt_of_get hi.1)
      have hsz : e.on < listed.size := by rw [hl.size]; exact hlt'
      cases hb' : listed.getD e.on false with
      | true => rfl
      | false =>
        have hm := (hl.mem e.on all[e.on]).2 ⟨List.getElem?_eq_getElem hlt', by rw [getD_flip hsz]; exact hb'⟩
        rcases List.mem_cons.1 hm with h | h
        · have : e.on = i := congrArg (·.1) h
          omega
        · have := (List.pairwise_cons.1 hl.sorted).1 _ h
          have : i < e.on := this
          omega⟩
    rw [hr] at this; cases this
/-- An operation that is not listed yet is not ahead of one that may be next. -/
theorem not_ahead {listed : Array Bool} {rest : List (Nat × Oper)} (hs : Stat all ms) (hl : Listed all listed rest) {i j : Nat} {x y : Oper} (hj : (j, x) ∈ rest) (hi : (i, y) ∈ rest) (hij : i < j)
    (hd : ∀ e ∈ x.after, Region.binds .any e = true → listed.getD e.on false = true) : Nat.testBit (mget ms j) i = false := by
  have hiy := (hl.mem i y).1 hi
  have hjx := (hl.mem j x).1 hj
  have hsz : i < listed.size := by rw [hl.size]; exact lt_of_get hiy.1
  cases hb : Nat.testBit (mget ms j) i with
  | false => rfl
  | true =>
    have := anc_listed hs hl j i x y hjx.1 hiy.1 hij hd hb
    rw [← getD_flip hsz, hiy.2] at this
    cases this
theorem wpAny_bar {K1 : St → Prop} {Q : Exit → Act → World → Prop} (hX : FxOk P X) (hcall : CallOk P callK) (hK : CtrBy X callK) (hs : Stat all ms) {p : Nat} {x : Oper} {post : List (Nat × Oper)}
    (hpost : ∀ e ∈ post, Nat.testBit (mget ms e.1) p = true)
    (next : ∀ (fuel : Nat) (listed : Array Bool) (s : St) (ρ : Nat → Value) (a : Act) (w : World), Ok w0 ρ s a w → K1 s → Listed all listed ((p, x) :: post) → post.length + 1 ≤ fuel → wpAny P .any all.toArray Q fuel listed a w) :
    ∀ (fuel : Nat) (listed : Array Bool) (pre : List (Nat × Oper)) (acc : List Rec) (s : St) (ρ : Nat → Value) (a : Act) (w : World), (∀ e ∈ pre, Nat.testBit (mget ms p) e.1 = true) →
      Listed all listed (pre ++ (p, x) :: post) → pre.length + post.length + 1 ≤ fuel → drunR X f nb all ms pre acc s K1 → Ok w0 ρ s a w → wpAny P .any all.toArray Q fuel listed a w := by
  intro fuel
  induction fuel with
  | zero => intro listed pre acc s ρ a w _ _ hf; omega
  | succ fuel ih =>
    intro listed pre acc s ρ a w hpre hl hf h hok
    cases pre with
    | nil => exact next (fuel + 1) listed s ρ a w hok h (by simpa using hl) (by simpa using hf)
    | cons e0 pre0 =>
      refine ⟨fun hr => absurd (rest_empty hs hl hr) (by simp), fun j hj => ?_⟩
      obtain ⟨y, hy, hd⟩ := ready_rest hl j hj
      have hsorted := hl.sorted
      rcases List.mem_append.1 hy with hy1 | hy1
      · obtain ⟨l1, l2, hl12⟩ := List.append_of_mem hy1
        rw [hl12] at hl h hpre hf
        have hjx := (hl.mem j y).1 (by simp)
        have hpw := hl.sorted
        rw [List.append_assoc, List.pairwise_append] at hpw
        have hap : ∀ e ∈ l1, sapart all e.2 y = true ∧ ord ms j e.1 = false ∧ ord ms e.1 j = false := by
          rintro ⟨i, z⟩ he
          have hij : i < j := hpw.2.2 _ he (j, y) (by simp)
          have hiz := (hl.mem i z).1 (by simp [he])
          have hbit := not_ahead hs hl (i := i) (j := j) (x := y) (y := z) (by simp) (by simp [he]) hij hd
          have h1 : Nat.blt i j = true := by simpa using hij
          have h2 : Nat.blt j i = false := by
            cases hb : Nat.blt j i with
            | false => rfl
            | true =>
              have : j < i := by simpa using hb
              omega
          exact ⟨hs.apart i j y z hjx.1 hiz.1 hij hbit, by simp only [ord, h2, cond_false]; exact hbit, by simp only [ord, h1, cond_true]; exact hbit⟩
        obtain ⟨q, t, F, W, e1, _, e3, e4⟩ := bubble hap h
        refine dstep_sound hX hcall hK hjx.1 hok e1 e3 fun ρ' a' w' hok' => ?_
        refine ih _ (l1 ++ l2) _ _ ρ' a' w' (fun e he => hpre e ?_) ?_ ?_ e4 hok'
        · rcases List.mem_append.1 he with he | he
          · simp [he]
          · simp [he]
        · have := listed_next (l1 := l1) (l2 := l2 ++ (p, x) :: post) (j := j) (x := y) (by simpa using hl) hd
          simpa using this
        · simp only [List.length_append, List.length_cons] at hf ⊢
          omega
      · exfalso
        rcases List.mem_cons.1 hy1 with e | hy2
        · cases e
          obtain ⟨i, z⟩ := e0
          have hlt : i < p := by
            rw [List.pairwise_append] at hsorted
            exact hsorted.2.2 (i, z) (by simp) (p, x) (by simp)
          have := not_ahead hs hl (i := i) (j := p) (x := x) (y := z) (by simp) (by simp) hlt hd
          rw [hpre (i, z) (by simp)] at this
          cases this
        · have hlt : p < j := by
            rw [List.pairwise_append] at hsorted
            exact (List.pairwise_cons.1 hsorted.2.1).1 (j, y) hy2
          have := not_ahead hs hl (i := p) (j := j) (x := y) (y := x) (by simp [hy2]) (by simp) hlt hd
          rw [hpost (j, y) hy2] at this
          cases this
/-- An operation that all ahead of it has been run ahead of. -/
theorem bar_step {Q : Exit → Act → World → Prop} (hX : FxOk P X) (hcall : CallOk P callK) {p : Nat} {x : Oper} {K2 : St → Prop} {N : Act → World → Prop} (ho' : all.toArray[p]? = some x)
    (hok : Ok w0 ρ s a w) (hop : barGo X callK f nb all (p, x) s K2) (goOn : ∀ ρ' s' a' w', Ok w0 ρ' s' a' w' → K2 s' → N a' w') : wpOp P all.toArray Q p N a w := by
  have key : (Region.wanted x (yielded all.toArray a.tmps) = true ∧ op1 X callK f s (nb + p) x K2) ∨
      (Region.wanted x (yielded all.toArray a.tmps) = false ∧ K2 (s.put x.dst (.tup []))) := by
    unfold barGo at hop
    split at hop
    · rename_i hg
      have hg : x.guard = none := hg
      exact .inl ⟨by simp [Region.wanted, hg], hop⟩
    · rename_i gj want hg
      have hg : x.guard = some (gj, want) := hg
      split at hop
      · rename_i d hdd
        have hv := hok.frame d
        split at hop
        · rename_i c hc
          rw [hc] at hv
          have hb : [a.tmps.getD d undef] = [.bool c] := SVc.one1 rfl (by simp) hv
          simp only [List.cons.injEq, and_true] at hb
          have hy := yield_bool hdd hb
          cases e : Bool.xor c want with
          | true =>
            rw [e] at hop
            exact .inr ⟨by simp only [Region.wanted, hg, hy]; cases c <;> cases want <;> (first | rfl | (cases e)), hop⟩
          | false =>
            rw [e] at hop
            exact .inl ⟨by simp only [Region.wanted, hg, hy]; cases c <;> cases want <;> (first | rfl | (cases e)), hop⟩
        · rename_i hc
          rw [hc] at hv
          obtain ⟨vs, hvs, he⟩ := hv
          have hu : a.tmps.getD d undef = undef := by
            rw [hvs]
            have he : vs.toList = [] := he
            have : vs = #[] := by simpa using he
            rw [this]; rfl
          exact .inr ⟨by simp [Region.wanted, hg, yield_none hdd hu], hop⟩
        · exact hop.elim
      · exact hop.elim
  unfold wpOp
  rw [ho']
  rcases key with ⟨hw, hop⟩ | ⟨hw, hop⟩
  · simp only [hw, if_true]
    exact .inl (op1_sound hX hcall hok hop goOn)
  · simp only [hw, Bool.false_eq_true, if_false]
    exact goOn ρ _ _ _ (hok.put x.dst sv_undef) hop
theorem allO_mem {α : Type} {f : α → Prop} : ∀ {l : List α}, allO f l → ∀ x ∈ l, f x
  | _ :: _, h, x, hx => by
    rcases List.mem_cons.1 hx with rfl | hx
    · exact h.1
    · exact allO_mem h.2 x hx
theorem allS_mem {α : Type} {f : α → Prop} : ∀ {l : List α}, allS f l → ∀ x ∈ l, f x
  | _ :: _, h, x, hx => by
    rcases List.mem_cons.1 hx with rfl | hx
    · exact h.1
    · exact allO_mem h.2 x hx
theorem okUs_mem {q : List (Nat × Oper) × List (Nat × Oper)} : ∀ {l : List (List (Nat × Oper) × List (Nat × Oper))}, q ∈ okUs ms l → ∃ q ∈ l, okSp ms q.1 q.2 = true
  | x :: r, h => by
    unfold okUs at h
    cases hx : okSp ms x.1 x.2 with
    | true => exact ⟨x, List.mem_cons_self .., hx⟩
    | false =>
      rw [hx] at h
      obtain ⟨y, h1, h2⟩ := okUs_mem h
      exact ⟨y, List.mem_cons_of_mem _ h1, h2⟩
theorem mem_okUs {q : List (Nat × Oper) × List (Nat × Oper)} (hq : okSp ms q.1 q.2 = true) : ∀ {l : List (List (Nat × Oper) × List (Nat × Oper))}, q ∈ l → q ∈ okUs ms l
  | x :: r, h => by
    unfold okUs
    rcases List.mem_cons.1 h with rfl | h
    · rw [hq]; exact List.mem_cons_self ..
    · have := mem_okUs hq h
      cases okSp ms x.1 x.2
      · exact this
      · exact List.mem_cons_of_mem _ this
theorem mem_putF {e : Nat × Oper} {q : List (Nat × Oper) × List (Nat × Oper)} : ∀ {qs : List (List (Nat × Oper) × List (Nat × Oper))}, q ∈ qs → (e :: q.1, q.2) ∈ putF e qs
  | _ :: _, h => by
    rcases List.mem_cons.1 h with rfl | h
    · exact List.mem_cons_self ..
    · exact List.mem_cons_of_mem _ (mem_putF h)
theorem mem_putB {e : Nat × Oper} {q : List (Nat × Oper) × List (Nat × Oper)} : ∀ {qs : List (List (Nat × Oper) × List (Nat × Oper))}, q ∈ qs → (q.1, e :: q.2) ∈ putB e qs
  | _ :: _, h => by
    rcases List.mem_cons.1 h with rfl | h
    · exact List.mem_cons_self ..
    · exact List.mem_cons_of_mem _ (mem_putB h)
theorem putF_mem {e : Nat × Oper} {u b : List (Nat × Oper)} : ∀ {qs : List (List (Nat × Oper) × List (Nat × Oper))}, (u, b) ∈ putF e qs → ∃ u', u = e :: u' ∧ (u', b) ∈ qs
  | q :: _, h => by
    rcases List.mem_cons.1 h with h | h
    · cases h; exact ⟨q.1, rfl, List.mem_cons_self ..⟩
    · obtain ⟨u', h1, h2⟩ := putF_mem h
      exact ⟨u', h1, List.mem_cons_of_mem _ h2⟩
theorem putB_mem {e : Nat × Oper} {u b : List (Nat × Oper)} : ∀ {qs : List (List (Nat × Oper) × List (Nat × Oper))}, (u, b) ∈ putB e qs → ∃ b', b = e :: b' ∧ (u, b') ∈ qs
  | q :: _, h => by
    rcases List.mem_cons.1 h with h | h
    · cases h; exact ⟨q.2, rfl, List.mem_cons_self ..⟩
    · obtain ⟨u', h1, h2⟩ := putB_mem h
      exact ⟨u', h1, List.mem_cons_of_mem _ h2⟩
theorem splits_cons {p : Nat} {e : Nat × Oper} {l u b : List (Nat × Oper)} (h : (u, b) ∈ splitsU ms p (e :: l)) :
    (mustA ms p e = false ∧ ∃ b', b = e :: b' ∧ (u, b') ∈ splitsU ms p l) ∨ ((mustA ms p e = true ∨ mustB ms p e = false) ∧ ∃ u', u = e :: u' ∧ (u', b) ∈ splitsU ms p l) := by
  unfold splitsU at h
  simp only [] at h
  cases ha : mustA ms p e with
  | true => rw [ha] at h; exact .inr ⟨.inl rfl, putF_mem h⟩
  | false =>
    rw [ha] at h
    cases hb : mustB ms p e with
    | true => rw [hb] at h; exact .inl ⟨rfl, putB_mem h⟩
    | false =>
      rw [hb] at h
      rcases List.mem_append.1 h with h | h
      · exact .inl ⟨rfl, putB_mem h⟩
      · exact .inr ⟨.inr rfl, putF_mem h⟩
theorem splits_behind {p : Nat} {e : Nat × Oper} {l u b : List (Nat × Oper)} (he : mustA ms p e = false) (h : (u, b) ∈ splitsU ms p l) : (u, e :: b) ∈ splitsU ms p (e :: l) := by
  have h := mem_putB (e := e) h
  show (u, e :: b) ∈ bif mustA ms p e then putF e (splitsU ms p l) else bif mustB ms p e then putB e (splitsU ms p l) else putB e (splitsU ms p l) ++ putF e (splitsU ms p l)
  rw [he]
  cases mustB ms p e
  · exact List.mem_append_left _ h
  · exact h
theorem splits_ahead {p : Nat} {e : Nat × Oper} {l u b : List (Nat × Oper)} (he : mustA ms p e = true ∨ mustB ms p e = false) (h : (u, b) ∈ splitsU ms p l) : (e :: u, b) ∈ splitsU ms p (e :: l) := by
  have h := mem_putF (e := e) h
  show (e :: u, b) ∈ bif mustA ms p e then putF e (splitsU ms p l) else bif mustB ms p e then putB e (splitsU ms p l) else putB e (splitsU ms p l) ++ putF e (splitsU ms p l)
  rcases he with he | he
  · rw [he]; exact h
  · rw [he]
    cases mustA ms p e
    · exact List.mem_append_right _ h
    · exact h
theorem splits_none {p : Nat} : ∀ {l : List (Nat × Oper)}, (∀ e ∈ l, mustA ms p e = false) → ([], l) ∈ splitsU ms p l
  | [], _ => List.mem_singleton.2 rfl
  | e :: l, h => splits_behind (h e (by simp)) (splits_none fun x hx => h x (by simp [hx]))
theorem splits_sub {p : Nat} : ∀ {l u b : List (Nat × Oper)}, (u, b) ∈ splitsU ms p l → (∀ e ∈ u, e ∈ l) ∧ ∀ e ∈ b, e ∈ l
  | [], u, b, h => by
    have := List.mem_singleton.1 h
    cases this
    exact ⟨fun _ h => h, fun _ h => h⟩
  | e :: l, u, b, h => by
    rcases splits_cons h with ⟨_, b', rfl, h'⟩ | ⟨_, u', rfl, h'⟩
    · have := splits_sub h'
      exact ⟨fun x hx => List.mem_cons_of_mem _ (this.1 x hx), fun x hx => by
        rcases List.mem_cons.1 hx with rfl | hx
        · exact List.mem_cons_self ..
        · exact List.mem_cons_of_mem _ (this.2 x hx)⟩
    · have := splits_sub h'
      exact ⟨fun x hx => by
        rcases List.mem_cons.1 hx with rfl | hx
        · exact List.mem_cons_self ..
        · exact List.mem_cons_of_mem _ (this.1 x hx), fun x hx => List.mem_cons_of_mem _ (this.2 x hx)⟩
theorem splits_insert {p : Nat} {y : Nat × Oper} (hy : mustA ms p y = true ∨ mustB ms p y = false) : ∀ {l1 l2 u b : List (Nat × Oper)}, (u, b) ∈ splitsU ms p (l1 ++ l2) →
    ∃ u1 u2, u = u1 ++ u2 ∧ (∀ e ∈ u1, e ∈ l1) ∧ (u1 ++ y :: u2, b) ∈ splitsU ms p (l1 ++ y :: l2)
  | [], l2, u, b, h => ⟨[], u, rfl, fun _ h => h, splits_ahead hy h⟩
  | e :: l1, l2, u, b, h => by
    rcases splits_cons (e := e) (l := l1 ++ l2) h with ⟨he, b', rfl, h'⟩ | ⟨he, u', rfl, h'⟩
    · obtain ⟨u1, u2, h1, h2, h3⟩ := splits_insert (l1 := l1) (l2 := l2) hy h'
      exact ⟨u1, u2, h1, fun x hx => List.mem_cons_of_mem _ (h2 x hx), splits_behind (e := e) (l := l1 ++ y :: l2) he h3⟩
    · obtain ⟨u1, u2, rfl, h2, h3⟩ := splits_insert (l1 := l1) (l2 := l2) hy h'
      exact ⟨e :: u1, u2, rfl, fun x hx => by
        rcases List.mem_cons.1 hx with rfl | hx
        · exact List.mem_cons_self ..
        · exact List.mem_cons_of_mem _ (h2 x hx), splits_ahead (e := e) (l := l1 ++ y :: l2) he h3⟩
/- One of them taken away. -/
theorem splits_remove {p : Nat} {y : Nat × Oper} : ∀ {l1 l2 u b : List (Nat × Oper)}, (u, b) ∈ splitsU ms p (l1 ++ y :: l2) → ∃ u' b', (u', b') ∈ splitsU ms p (l1 ++ l2) ∧ (∀ e ∈ u', e ∈ u) ∧ ∀ e ∈ b', e ∈ b
  | [], l2, u, b, h => by
    rcases splits_cons (e := y) (l := l2) h with ⟨_, b', rfl, h'⟩ | ⟨_, u', rfl, h'⟩
    · exact ⟨u, b', h', fun _ h => h, fun _ h => List.mem_cons_of_mem _ h⟩
    · exact ⟨u', b, h', fun _ h => List.mem_cons_of_mem _ h, fun _ h => h⟩
  | e :: l1, l2, u, b, h => by
    rcases splits_cons (e := e) (l := l1 ++ y :: l2) h with ⟨he, b', rfl, h'⟩ | ⟨he, u', rfl, h'⟩
    · obtain ⟨u2, b2, h1, h2, h3⟩ := splits_remove (l1 := l1) (l2 := l2) h'
      exact ⟨u2, e :: b2, splits_behind (e := e) (l := l1 ++ l2) he h1, h2, fun x hx => by
        rcases List.mem_cons.1 hx with rfl | hx
        · exact List.mem_cons_self ..
        · exact List.mem_cons_of_mem _ (h3 x hx)⟩
    · obtain ⟨u2, b2, h1, h2, h3⟩ := splits_remove (l1 := l1) (l2 := l2) h'
      exact ⟨e :: u2, b2, splits_ahead (e := e) (l := l1 ++ l2) he h1, fun x hx => by
        rcases List.mem_cons.1 hx with rfl | hx
        · exact List.mem_cons_self ..
        · exact List.mem_cons_of_mem _ (h2 x hx), h3⟩
theorem okSp_iff {u b : List (Nat × Oper)} : okSp ms u b = true ↔ ∀ e ∈ u, ∀ e' ∈ b, e'.1 < e.1 → Nat.testBit (mget ms e.1) e'.1 = false := by
  unfold okSp
  rw [List.all_eq_true]
  constructor
  · intro h e he e' he' hlt
    have h1 := h e he
    rw [List.all_eq_true] at h1
    have h2 := h1 e' he'
    have h3 : Nat.blt e'.1 e.1 = true := by simpa using hlt
    rw [h3] at h2
    simpa using h2
  · intro h e he
    rw [List.all_eq_true]
    intro e' he'
    cases h3 : Nat.blt e'.1 e.1 with
    | false => rfl
    | true =>
      have hlt : e'.1 < e.1 := by simpa using h3
      rw [cond_true, h e he e' he' hlt]; rfl
theorem drunR_tell {r : List (Nat × Oper)} {acc : List Rec} {s : St} {j : Nat} {y : Oper} {K : St → Prop} {pp : Option Prop} {t : St} {F W : List Nat} (e : dstep X f nb all j y s = some (pp, t, F, W))
    (h : drunR X f nb all ms ((j, y) :: r) acc s K) : drunR X f nb all ms r ((j, F, W) :: acc) t K := by
  obtain ⟨p', t', F', W', e1, _, _, e4⟩ := h
  rw [e] at e1
  cases e1
  exact e4
theorem wpAny_barU {K1 : List (Nat × Oper) → St → Prop} {Q : Exit → Act → World → Prop} (hX : FxOk P X) (hcall : CallOk P callK) (hK : CtrBy X callK) (hs : Stat all ms) {p : Nat} {x : Oper}
    (next : ∀ (m : Nat) (listed : Array Bool) (pre post : List (Nat × Oper)) (s : St) (ρ : Nat → Value) (a : Act) (w : World), Ok w0 ρ s a w → K1 (pre ++ post) s → Listed all listed (pre ++ (p, x) :: post) → pre.length + post.length ≤ m →
      (∀ e ∈ x.after, Region.binds .any e = true → listed.getD e.on false = true) → wpOp P all.toArray Q p (wpAny P .any all.toArray Q m (listed.setIfInBounds p true)) a w) :
    ∀ (fuel : Nat) (listed : Array Bool) (pre post : List (Nat × Oper)) (acc : List Rec) (s : St) (ρ : Nat → Value) (a : Act) (w : World),
      Listed all listed (pre ++ (p, x) :: post) → pre.length + post.length + 1 ≤ fuel → (∃ q ∈ splitsU ms p (pre ++ post), okSp ms q.1 q.2 = true) →
      (∀ q ∈ splitsU ms p (pre ++ post), okSp ms q.1 q.2 = true → drunR X f nb all ms q.1 acc s (K1 q.2)) → Ok w0 ρ s a w →
      wpAny P .any all.toArray Q fuel listed a w := by
  intro fuel
  induction fuel with
  | zero => intro listed pre post acc s ρ a w _ hf; omega
  | succ fuel ih =>
    intro listed pre post acc s ρ a w hl hf hex h hok
    refine ⟨fun hr => absurd (rest_empty hs hl hr) (by simp), fun j hj => ?_⟩
    obtain ⟨y, hy, hd⟩ := ready_rest hl j hj
    have hsorted := hl.sorted
    have hord := List.pairwise_append.1 hsorted
    have hord2 := List.pairwise_cons.1 hord.2.1
    have hall : ∀ {e : Nat × Oper}, e ∈ pre ++ post → e ∈ pre ++ (p, x) :: post := fun {e} he => by
      rcases List.mem_append.1 he with h | h
      · simp [h]
      · simp [h]
    have hos : (pre ++ post).Pairwise (fun a b => a.1 < b.1) := List.pairwise_append.2 ⟨hord.1, hord2.2, fun a ha b hb => hord.2.2 a ha b (by simp [hb])⟩
    have hgap : ∀ {i : Nat} {z : Oper}, (i, z) ∈ pre ++ (p, x) :: post → (j, y) ∈ pre ++ (p, x) :: post → i < j → sapart all z y = true ∧ ord ms j i = false ∧ ord ms i j = false := fun {i z} hi hjm hij => by
      have hiz := (hl.mem i z).1 hi
      have hjx := (hl.mem j y).1 hjm
      have hbit := not_ahead hs hl (i := i) (j := j) (x := y) (y := z) hjm hi hij hd
      have h1 : Nat.blt i j = true := by simpa using hij
      have h2 : Nat.blt j i = false := by
        cases hb : Nat.blt j i with
        | false => rfl
        | true =>
          have : j < i := by simpa using hb
          omega
      exact ⟨hs.apart i j y z hjx.1 hiz.1 hij hbit, by simp only [ord, h2, cond_false]; exact hbit, by simp only [ord, h1, cond_true]; exact hbit⟩
    by_cases hjp : j = p
    · subst hjp
      have hyx : y = x := by
        have h1 := ((hl.mem j y).1 hy).1
        have h2 := ((hl.mem j x).1 (by simp)).1
        rw [h1] at h2
        exact Option.some.inj h2
      subst hyx
      have hnone : ∀ e ∈ pre ++ post, mustA ms j e = false := fun e he => by
        unfold mustA
        cases hb : Nat.blt e.1 j with
        | false => rfl
        | true =>
          have hlt : e.1 < j := by simpa using hb
          rw [not_ahead hs hl (i := e.1) (j := j) (x := y) (y := e.2) (by simp) (hall he) hlt hd]; rfl
      exact next fuel listed pre post s ρ a w hok (h _ (splits_none hnone) rfl) hl (by omega) hd
    · have hyo : (j, y) ∈ pre ++ post := by
        rcases List.mem_append.1 hy with h | h
        · simp [h]
        · rcases List.mem_cons.1 h with h | h
          · cases h; exact absurd rfl hjp
          · simp [h]
      have hmust : mustA ms p (j, y) = true ∨ mustB ms p (j, y) = false := by
        refine .inr ?_
        unfold mustB
        cases hb : Nat.blt p j with
        | false => rfl
        | true =>
          have hlt : p < j := by simpa using hb
          rw [not_ahead hs hl (i := p) (j := j) (x := y) (y := x) hy (by simp) hlt hd]; rfl
      have hjx := (hl.mem j y).1 hy
      have hmv : ∀ l1 l2, pre ++ post = l1 ++ (j, y) :: l2 → ∀ q ∈ splitsU ms p (l1 ++ l2), okSp ms q.1 q.2 = true → drunR X f nb all ms ((j, y) :: q.1) acc s (K1 q.2) := fun l1 l2 hl12 q hq hqo => by
        obtain ⟨u, b⟩ := q
        obtain ⟨u1, u2, rfl, hu1, hin⟩ := splits_insert (y := (j, y)) hmust hq
        have hsub := splits_sub hq
        have hqo' : okSp ms (u1 ++ (j, y) :: u2) b = true := by
          rw [okSp_iff] at hqo ⊢
          intro e he e' he' hlt
          rcases List.mem_append.1 he with he | he
          · exact hqo e (by simp [he]) e' he' hlt
          · rcases List.mem_cons.1 he with rfl | he
            · have hz := hsub.2 _ he'
              have hzm : e' ∈ pre ++ post := by
                rw [hl12]
                rcases List.mem_append.1 hz with h | h
                · simp [h]
                · simp [h]
              exact not_ahead hs hl (i := e'.1) (j := j) (x := y) (y := e'.2) hy (hall hzm) hlt hd
            · exact hqo e (by simp [he]) e' he' hlt
        have h1 := h _ (by rw [hl12]; exact hin) hqo'
        have hp12 := hos
        rw [hl12, List.pairwise_append] at hp12
        have hap : ∀ e ∈ u1, sapart all e.2 y = true ∧ ord ms j e.1 = false ∧ ord ms e.1 j = false := by
          rintro ⟨i, z⟩ he
          have h2 := hu1 _ he
          have h3 : (i, z) ∈ pre ++ post := by rw [hl12]; simp [h2]
          exact hgap (i := i) (z := z) (hall h3) hy (hp12.2.2 _ h2 (j, y) (by simp))
        exact bubble hap h1
      have hexr : ∀ l1 l2, pre ++ post = l1 ++ (j, y) :: l2 → ∃ q ∈ splitsU ms p (l1 ++ l2), okSp ms q.1 q.2 = true := fun l1 l2 hl12 => by
        obtain ⟨⟨u, b⟩, hq, hqo⟩ := hex
        rw [hl12] at hq
        obtain ⟨u', b', h1, h2, h3⟩ := splits_remove hq
        refine ⟨(u', b'), h1, ?_⟩
        rw [okSp_iff] at hqo ⊢
        exact fun e he e' he' hlt => hqo e (h2 e he) e' (h3 e' he') hlt
      rcases List.mem_append.1 hyo with hy1 | hy1
      · obtain ⟨l1, l2, rfl⟩ := List.append_of_mem hy1
        have he12 : (l1 ++ (j, y) :: l2) ++ post = l1 ++ (j, y) :: (l2 ++ post) := by simp
        obtain ⟨q0, hq0, hqo0⟩ := hexr l1 (l2 ++ post) he12
        obtain ⟨pp, t, F, W, e1, _, e3, _⟩ := hmv l1 (l2 ++ post) he12 q0 hq0 hqo0
        refine dstep_sound hX hcall hK hjx.1 hok e1 e3 fun ρ' a' w' hok' => ?_
        refine ih _ (l1 ++ l2) post ((j, F, W) :: acc) t ρ' a' w' ?_ ?_ ?_ (fun q hq hqo => ?_) hok'
        · have := listed_next (l1 := l1) (l2 := l2 ++ (p, x) :: post) (j := j) (x := y) (by simpa using hl) hd
          simpa using this
        · simp only [List.length_append, List.length_cons] at hf ⊢
          omega
        · rw [List.append_assoc]
          exact hexr l1 (l2 ++ post) he12
        · rw [List.append_assoc] at hq
          exact drunR_tell e1 (hmv l1 (l2 ++ post) he12 q hq hqo)
      · obtain ⟨l1, l2, rfl⟩ := List.append_of_mem hy1
        have he12 : pre ++ (l1 ++ (j, y) :: l2) = (pre ++ l1) ++ (j, y) :: l2 := by simp
        obtain ⟨q0, hq0, hqo0⟩ := hexr (pre ++ l1) l2 he12
        obtain ⟨pp, t, F, W, e1, _, e3, _⟩ := hmv (pre ++ l1) l2 he12 q0 hq0 hqo0
        refine dstep_sound hX hcall hK hjx.1 hok e1 e3 fun ρ' a' w' hok' => ?_
        refine ih _ pre (l1 ++ l2) ((j, F, W) :: acc) t ρ' a' w' ?_ ?_ ?_ (fun q hq hqo => ?_) hok'
        · have := listed_next (l1 := pre ++ (p, x) :: l1) (l2 := l2) (j := j) (x := y) (by simpa using hl) hd
          simpa using this
        · simp only [List.length_append, List.length_cons] at hf ⊢
          omega
        · rw [← List.append_assoc]
          exact hexr (pre ++ l1) l2 he12
        · rw [← List.append_assoc] at hq
          exact drunR_tell e1 (hmv (pre ++ l1) l2 he12 q hq hqo)
theorem sameTmp_eq {m m' : Operand} (h : sameTmp m m' = true) : m = m' := by
  unfold sameTmp at h
  split at h
  · rw [Nat.eq_of_beq_eq_true h]
  · cases h
theorem offTmp_eval {d1 d2 : Nat} {m : Operand} {a : Act} {u v : Value} (h : offTmp d1 d2 m = true) : ((a.put (some d1) u).put (some d2) v).eval m = a.eval m := by
  have key : m ≠ .tmp d1 ∧ m ≠ .tmp d2 := by
    constructor
    · rintro rfl
      simp [offTmp] at h
    · rintro rfl
      simp [offTmp] at h
  rw [Act.eval_put (fun d hd => by cases hd; exact key.2), Act.eval_put (fun d hd => by cases hd; exact key.1)]
theorem fuseM_spec {pre post : List (Nat × Oper)} {e : Nat × Oper} {t : TypeId} {m k v : Operand} {d1 d2 : Nat} (h : fuseM ms pre e post = some (t, m, k, v, d1, d2)) :
    ∃ x y : Nat × Oper, post = [x, y] ∧ (e.2.op = .mapEntry t m k ∧ e.2.dst = some d1 ∧ e.2.guard = none) ∧ (x.2.op = .extract (.tmp d1) 1 ∧ x.2.dst = some d2 ∧ x.2.guard = none) ∧
      (y.2.op = .entryStore t m (.tmp d2) v ∧ y.2.dst = none ∧ y.2.guard = none) ∧ (offTmp d1 d2 m = true ∧ offTmp d1 d2 v = true) ∧ d1 ≠ d2 ∧
      (∀ q ∈ pre, Nat.testBit (mget ms e.1) q.1 = true) ∧ Nat.testBit (mget ms x.1) e.1 = true ∧ Nat.testBit (mget ms y.1) e.1 = true ∧ Nat.testBit (mget ms y.1) x.1 = true := by
  unfold fuseM at h
  split at h
  · rename_i x y
    split at h
    · rename_i t0 m0 k0 d10 d1' d20 t' m' d2' v0 h1 h2 h3 h4 h5 h6 h7 h8 h9
      rw [Bool.cond_eq_ite] at h
      split at h
      · rename_i hc
        simp only [Bool.and_eq_true, Bool.not_eq_true', List.all_eq_true] at hc
        obtain ⟨⟨c1, c2⟩, ⟨c3, c4⟩, ⟨c5, c6⟩, c7, c8, c9, c10, c11⟩ := hc
        have c1 := Nat.eq_of_beq_eq_true c1
        have c2 := Nat.eq_of_beq_eq_true c2
        have c3 := Nat.eq_of_beq_eq_true c3
        have c4 := sameTmp_eq c4
        subst c1; subst c2; subst c3; subst c4
        simp only [Option.some.injEq, Prod.mk.injEq] at h
        obtain ⟨rfl, rfl, rfl, rfl, rfl, rfl⟩ := h
        exact ⟨x, y, rfl, ⟨h1, h2, h3⟩, ⟨h4, h5, h6⟩, ⟨h7, h8, h9⟩, ⟨c5, c6⟩, fun e => (by rw [e, Nat.beq_refl] at c7; cases c7), c8, c9, c10, c11⟩
      · cases h
    · cases h
  · cases h
theorem only_first (hs : Stat all ms) {listed : Array Bool} {e : Nat × Oper} {rest : List (Nat × Oper)} (hl : Listed all listed (e :: rest)) (hb : ∀ r ∈ rest, Nat.testBit (mget ms r.1) e.1 = true) {j : Nat}
    (hj : j ∈ Region.ready .any all.toArray listed) : j = e.1 ∧ ∀ d ∈ e.2.after, Region.binds .any d = true → listed.getD d.on false = true := by
  obtain ⟨z, hz, hdz⟩ := ready_rest hl j hj
  rcases List.mem_cons.1 hz with h | h
  · subst h
    exact ⟨rfl, hdz⟩
  · exfalso
    have hlt : e.1 < j := (List.pairwise_cons.1 hl.sorted).1 (j, z) h
    have := not_ahead hs hl (i := e.1) (j := j) (x := z) (y := e.2) (by simp [h]) (by simp) hlt hdz
    rw [hb (j, z) h] at this
    cases this
theorem mapSet_steps {K : St → Prop} {Q : Exit → Act → World → Prop} (hX : FxOk P X) (hs : Stat all ms) (hQ : ∀ ρ' s' a' w', Ok w0 ρ' s' a' w' → K s' → Q .normal a' w')
    {e x y : Nat × Oper} {t : TypeId} {m k v : Operand} {d1 d2 : Nat}
    (he : e.2.op = .mapEntry t m k ∧ e.2.dst = some d1 ∧ e.2.guard = none) (hx : x.2.op = .extract (.tmp d1) 1 ∧ x.2.dst = some d2 ∧ x.2.guard = none) (hy : y.2.op = .entryStore t m (.tmp d2) v ∧ y.2.dst = none ∧ y.2.guard = none)
    (ho : offTmp d1 d2 m = true ∧ offTmp d1 d2 v = true) (hd : d1 ≠ d2) (hxe : Nat.testBit (mget ms x.1) e.1 = true) (hye : Nat.testBit (mget ms y.1) e.1 = true) (hyx : Nat.testBit (mget ms y.1) x.1 = true)
    {fuel : Nat} {listed : Array Bool} {s : St} {ρ : Nat → Value} {a : Act} {w : World} (hok : Ok w0 ρ s a w) (hk : mapSet X.E t m k v d1 d2 s K) (hl : Listed all listed [e, x, y]) (hf : 3 ≤ fuel) : wpAny P .any all.toArray Q fuel listed a w := by
  obtain ⟨n, rfl⟩ : ∃ n, fuel = n + 3 := ⟨fuel - 3, by omega⟩
  unfold mapSet at hk
  cases hlen : (Nat.blt d1 s.fr.length && Nat.blt d2 s.fr.length) with
  | false => rw [hlen] at hk; exact hk.elim
  | true =>
  rw [hlen] at hk
  simp only [Bool.not_true, cond_false] at hk
  simp only [Bool.and_eq_true] at hlen
  have hd1 : d1 < a.tmps.size := by rw [← hok.len]; simpa using hlen.1
  have hd2 : d2 < a.tmps.size := by rw [← hok.len]; simpa using hlen.2
  split at hk
  rotate_left
  · exact hk.elim
  rename_i nm hm
  split at hk
  rotate_left
  · exact hk.elim
  rename_i q hmo
  obtain ⟨kk, ⟨u, xs⟩⟩ := q
  have hk2 : ∃ p s', insertS X.E s t (ev s m) (ev s k) (ev s v) = some (p, s') ∧ K ((s'.put (some d1) (.one .any)).put (some d2) (.one .any)) := by
    split at hk
    · rename_i s' hi; exact ⟨none, s', hi, hk⟩
    · rename_i p s' hi; exact ⟨some p, s', hi, hk.2⟩
    · exact hk.elim
  obtain ⟨p, s', hi, hK⟩ := hk2
  obtain ⟨v0, st, w1, w2, ρ', r1, r2, hok2⟩ := mapset_run hX.env hok hmo hm hi
  have hee := (hl.mem e.1 e.2).1 (by simp)
  refine ⟨fun hr => absurd (rest_empty hs hl hr) (by simp), fun j hj => ?_⟩
  obtain ⟨rfl, hde⟩ := only_first hs hl (fun r hr => by
    rcases List.mem_cons.1 hr with rfl | hr
    · exact hxe
    · rw [List.mem_singleton.1 hr]; exact hye) hj
  have hl1 : Listed all (listed.setIfInBounds e.1 true) [x, y] := listed_next (l1 := []) (l2 := [x, y]) (j := e.1) (x := e.2) hl hde
  have he' : all.toArray[e.1]? = some e.2 := by simpa using hee.1
  unfold wpOp
  rw [he']
  simp only [Region.wanted, he.2.2, if_true]
  refine .inl (Does.wp (.inl ⟨.tuple #[v0, goInt st], w1, by simp only [execOp, he.1, Sem.run_bind, r1, Result.andThen_ok, Sem.run_pure], ?_⟩))
  rw [he.2.1]
  have hxx := (hl1.mem x.1 x.2).1 (by simp)
  refine ⟨fun hr => absurd (rest_empty hs hl1 hr) (by simp), fun j hj => ?_⟩
  obtain ⟨rfl, hdx⟩ := only_first hs hl1 (fun r hr => by rw [List.mem_singleton.1 hr]; exact hyx) hj
  have hl2 : Listed all ((listed.setIfInBounds e.1 true).setIfInBounds x.1 true) [y] := listed_next (l1 := []) (l2 := [y]) (j := x.1) (x := x.2) hl1 hdx
  have hx' : all.toArray[x.1]? = some x.2 := by simpa using hxx.1
  unfold wpOp
  rw [hx']
  simp only [Region.wanted, hx.2.2, if_true]
  have hev : (a.put (some d1) (.tuple #[v0, goInt st])).eval (.tmp d1) = .tuple #[v0, goInt st] := by
    simp [Act.put, Act.eval, hd1]
  refine .inl (Does.wp (.inl ⟨goInt st, w1, by simp [execOp, hx.1, Sem.run_bind, hev, Instr.extract], ?_⟩))
  rw [hx.2.1]
  have hyy := (hl2.mem y.1 y.2).1 (by simp)
  refine ⟨fun hr => absurd (rest_empty hs hl2 hr) (by simp), fun j hj => ?_⟩
  obtain ⟨rfl, hdy⟩ := only_first hs hl2 (fun r hr => by cases hr) hj
  have hl3 : Listed all (((listed.setIfInBounds e.1 true).setIfInBounds x.1 true).setIfInBounds y.1 true) [] := listed_next (l1 := []) (l2 := []) (j := y.1) (x := y.2) hl2 hdy
  have hy' : all.toArray[y.1]? = some y.2 := by simpa using hyy.1
  unfold wpOp
  rw [hy']
  simp only [Region.wanted, hy.2.2, if_true]
  have hev2 : ((a.put (some d1) (.tuple #[v0, goInt st])).put (some d2) (goInt st)).eval (.tmp d2) = goInt st := by
    simp [Act.put, Act.eval, hd2]
  refine .inl (Does.wp (.inr ⟨w2, by simp only [execOp, hy.1, Sem.run_bind, hev2, offTmp_eval ho.1, offTmp_eval ho.2, r2, Result.andThen_ok, Sem.run_pure], ?_⟩))
  rw [hy.2.1]
  have hr : Region.ready .any all.toArray (((listed.setIfInBounds e.1 true).setIfInBounds x.1 true).setIfInBounds y.1 true) = [] := by
    cases h : Region.ready .any all.toArray (((listed.setIfInBounds e.1 true).setIfInBounds x.1 true).setIfInBounds y.1 true) with
    | nil => rfl
    | cons i r =>
      obtain ⟨z, hz, _⟩ := ready_rest hl3 i (by rw [h]; simp)
      cases hz
  exact wpAny_done hr (hQ ρ' _ _ _ ((hok2.put (some d1) (SVc_any _)).put (some d2) (SVc_any _)) hK) n
theorem splitBar_spec {bp : Oper → Bool} : ∀ {l a b : List (Nat × Oper)} {e : Nat × Oper}, splitBar bp l = (a, some (e, b)) → l = a ++ e :: b
  | [], _, _, _, h => by cases h
  | q :: r, a, b, e, h => by
    unfold splitBar at h
    cases hq : bp q.2 with
    | true => rw [hq] at h; cases h; rfl
    | false =>
      rw [hq] at h
      simp only [cond_false] at h
      generalize hr : splitBar bp r = u at h
      obtain ⟨a', b'⟩ := u
      simp only [Prod.mk.injEq] at h
      obtain ⟨rfl, rfl⟩ := h
      rw [splitBar_spec hr]; rfl
theorem wpAny_drunB {K : St → Prop} {Q : Exit → Act → World → Prop} (hX : FxOk P X) (hcall : CallOk P callK) (hK : CtrBy X callK) (hs : Stat all ms)
    (hQ : ∀ ρ' s' a' w', Ok w0 ρ' s' a' w' → K s' → Q .normal a' w') :
    ∀ (n fuel : Nat) (listed : Array Bool) (rest : List (Nat × Oper)) (s : St) (ρ : Nat → Value) (a : Act) (w : World), Listed all listed rest → rest.length ≤ fuel →
      drunB X callK f nb all ms n rest s K → Ok w0 ρ s a w → wpAny P .any all.toArray Q fuel listed a w := by
  intro n
  induction n with
  | zero => exact fun fuel listed rest s ρ a w hl hf h hok => wpAny_drun (f := f) (nb := nb) hX hcall hK hs hQ fuel listed rest [] s ρ a w hl hf (drun_R _ _ _ h) hok
  | succ n ih =>
    intro fuel listed rest s ρ a w hl hf h hok
    unfold drunB at h
    split at h
    · rename_i pre e post hsp
      have hrest := splitBar_spec hsp
      obtain ⟨p, x⟩ := e
      split at h
      · rename_i t m k v d1 d2 hfu
        subst hrest
        obtain ⟨x', y', rfl, q1, q2, q3, q4, q5, q6, q7, q8, q9⟩ := fuseM_spec hfu
        refine wpAny_bar (K1 := fun s1 => mapSet X.E t m k v d1 d2 s1 K) (f := f) (nb := nb) hX hcall hK hs (fun e he => ?_) (fun fuel listed s ρ a w hok hk hl hf => mapSet_steps hX hs hQ q1 q2 q3 q4 q5 q7 q8 q9 hok hk hl (by simpa using hf)) fuel listed pre [] s ρ a w q6 hl ?_ (drun_R _ _ _ h) hok
        · rcases List.mem_cons.1 he with rfl | he
          · exact q7
          · rw [List.mem_singleton.1 he]; exact q8
        · simp only [List.length_append, List.length_cons] at hf ⊢
          omega
      cases hb : barOk ms pre post p with
      | false =>
        rw [hb] at h
        simp only [cond_false] at h
        subst hrest
        have hne : ∃ q ∈ splitsU ms p (pre ++ post), okSp ms q.1 q.2 = true := by
          cases hu : okUs ms (splitsU ms p (pre ++ post)) with
          | nil => rw [hu] at h; exact h.elim
          | cons q r => exact okUs_mem (by rw [hu]; exact List.mem_cons_self ..)
        refine wpAny_barU (K1 := fun b s1 => barGo X callK f nb all (p, x) s1 (fun s2 => drunB X callK f nb all ms n b s2 K)) (f := f) (nb := nb) hX hcall hK hs ?_ fuel listed pre post [] s ρ a w hl ?_ hne (fun q hq hqo => ?_) hok
        · intro m listed pre post s ρ a w hok hop hl hf hd
          have hjx := (hl.mem p x).1 (by simp)
          have ho' : all.toArray[p]? = some x := by simpa using hjx.1
          exact bar_step hX hcall ho' hok hop fun ρ' s' a' w' hok' hK' =>
            ih m _ (pre ++ post) s' ρ' a' w' (listed_next (l1 := pre) hl hd) (by simpa using hf) hK' hok'
        · simp only [List.length_append, List.length_cons] at hf
          omega
        · exact drun_R _ _ _ (allS_mem h q (mem_okUs hqo hq))
      | true =>
        rw [hb] at h
        simp only [cond_true] at h
        simp only [Bool.and_eq_true, barOk, List.all_eq_true] at hb
        subst hrest
        refine wpAny_bar (K1 := fun s1 => barGo X callK f nb all (p, x) s1 (fun s2 => drunB X callK f nb all ms n post s2 K)) (f := f) (nb := nb) hX hcall hK hs (fun e he => hb.2 e he) ?_ fuel listed pre [] s ρ a w (fun e he => hb.1 e he) hl ?_ (drun_R _ _ _ h) hok
        · intro fuel listed s ρ a w hok hop hl hf
          obtain ⟨m, rfl⟩ : ∃ m, fuel = m + 1 := ⟨fuel - 1, by omega⟩
          refine ⟨fun hr => absurd (rest_empty hs hl hr) (by simp), fun j hj => ?_⟩
          obtain ⟨y, hy, hd⟩ := ready_rest hl j hj
          rcases List.mem_cons.1 hy with e | hy2
          · cases e
            have hjx := (hl.mem p x).1 (by simp)
            have ho' : all.toArray[p]? = some x := by simpa using hjx.1
            exact bar_step hX hcall ho' hok hop fun ρ' s' a' w' hok' hK' =>
              ih m _ post s' ρ' a' w' (by simpa using listed_next (l1 := []) (by simpa using hl) hd) (by omega) hK' hok'
          · exfalso
            have hlt : p < j := (List.pairwise_cons.1 hl.sorted).1 (j, y) hy2
            have := not_ahead hs hl (i := p) (j := j) (x := y) (y := x) (by simp [hy2]) (by simp) hlt hd
            rw [hb.2 (j, y) hy2] at this
            cases this
        · simp only [List.length_append, List.length_cons] at hf
          omega
    · exact wpAny_drun (f := f) (nb := nb) hX hcall hK hs hQ fuel listed rest [] s ρ a w hl hf (drun_R _ _ _ h) hok
theorem listed_start {os : Array Oper} : Listed os.toList (Array.replicate os.size false) (numbered 0 os.toList) := by
  refine ⟨by simp, fun i o => ?_, numbered_sorted, fun i o hi hli => ?_⟩
  · rw [numbered_get]
    simp only [Nat.zero_le, Nat.sub_zero, true_and]
    constructor
    · intro h
      have := lt_of_get h
      refine ⟨h, ?_⟩
      have hlt : i < os.size := by simpa using this
      simp [hlt]
    · exact fun h => h.1
  · exfalso
    have := lt_of_get hi
    have hlt : i < os.size := by simpa using this
    simp [hlt] at hli
theorem numbered_length : ∀ (l : List Oper) (n : Nat), (numbered n l).length = l.length
  | [], _ => rfl
  | _ :: l, n => by simp [numbered, numbered_length l]
theorem hoistV_yields {E : Env} {s : St} {p : Option Prop} {v : SV} {ops : Array Oper} {o : Oper} {w : World} (hE : EnvOk P E) (h : Ok w0 ρ s a w) (hs : hoistV E s o = some (p, v)) (hp : vcP p) :
    ∃ u, Yields P ops o u a ∧ SVc (cx w0 ρ s w) v u := by
  unfold hoistV at hs
  split at hs
  · rename_i x ho hg
    simp only [Option.some.injEq, Prod.mk.injEq] at hs
    obtain ⟨_, rfl⟩ := hs
    exact ⟨a.eval x, .inl ⟨by simp [Region.wanted, hg], fun w => by simp [execOp, ho]⟩, h.ev x⟩
  · rename_i x ho hg
    have hx := h.ev x
    split at hs
    · rename_i k off e
      simp only [Option.some.injEq, Prod.mk.injEq] at hs
      obtain ⟨_, rfl⟩ := hs
      rw [e] at hx
      obtain ⟨hu, b, hb, hl⟩ := SVc.one1 rfl (by simp) hx
      simp only [List.cons.injEq, and_true] at hl
      exact ⟨a.eval x, .inl ⟨by simp [Region.wanted, hg], fun w => by simp [execOp, ho, hl]⟩, hx⟩
    · rename_i e
      simp only [Option.some.injEq, Prod.mk.injEq] at hs
      obtain ⟨_, rfl⟩ := hs
      rw [e] at hx
      obtain ⟨hu, _, b, hb, hl⟩ := SVc.one1 rfl (by simp) hx
      simp only [List.cons.injEq, and_true] at hl
      exact ⟨a.eval x, .inl ⟨by simp [Region.wanted, hg], fun w => by simp [execOp, ho, hl]⟩, hx⟩
    · cases hs
  · rename_i t x i ho hg
    split at hs
    · rename_i fo fi hf
      cases hz : Nat.beq fi.size 0 with
      | true => rw [hz] at hs; cases hs
      | false =>
        rw [hz] at hs
        simp only [cond_false] at hs
        have hz' : fi.size ≠ 0 := fun e => by rw [e] at hz; cases hz
        have hx := h.ev x
        split at hs
        · rename_i k off e
          simp only [Option.some.injEq, Prod.mk.injEq] at hs
          obtain ⟨_, rfl⟩ := hs
          rw [e] at hx
          obtain ⟨hu, b, hb, hl⟩ := SVc.one1 rfl (by simp) hx
          simp only [List.cons.injEq, and_true] at hl
          refine ⟨_, .inl ⟨by simp [Region.wanted, hg], fun w => ?_⟩, SVc.of1 (p := .ptr k (off + fo)) rfl ⟨hu, b, hb, rfl⟩⟩
          have hrun := fieldAt_run (w := w) hE hf hz'
          simp only [execOp, ho, Sem.run_bind, hl, hrun, Result.andThen_ok, Sem.run_pure]
        · cases hs
    · cases hs
  · rename_i t x y t' ho hg
    split at hs
    · rename_i k m k' n hx hy
      have ex := asInt_c (h.ev x) hx
      have ey := asInt_c (h.ev y) hy
      split at hs
      · rename_i hk
        subst hk
        split at hs
        · rename_i q r hr
          simp only [Option.some.injEq, Prod.mk.injEq] at hs
          obtain ⟨rfl, rfl⟩ := hs
          refine ⟨_, .inl ⟨by simp [Region.wanted, hg], fun w => ?_⟩, sv_int (arith_in (asInt_ir (h.ev x) hx) (asInt_ir (h.ev y) hy) hr hp)⟩
          rw [exec_bin ho, ex, ey]
          simp only [Sem.run_bind, run_eqGuard_int, Result.andThen_ok, arith_run (asInt_ir (h.ev x) hx) hr hp, Sem.run_pure]
        · cases hs
      · cases hs
    · cases hs
  · cases hs
theorem hoist_sound {K : List (Nat × Oper) → St → Prop} {Q : Exit → Act → World → Prop} (hE : EnvOk P X.E) (hQ : ∀ c a w, ¬ Q (.panic c) a w) (w : World)
    (hn : ∀ (fuel : Nat) (listed : Array Bool) (rest : List (Nat × Oper)) (s : St) (ρ : Nat → Value) (a : Act), Listed all listed rest → rest.length ≤ fuel → K rest s → Ok w0 ρ s a w → wpAny P .any all.toArray Q fuel listed a w) :
    ∀ (l pre : List (Nat × Oper)) (fuel : Nat) (listed : Array Bool) (s : St) (ρ : Nat → Value) (a : Act), Listed all listed (pre ++ l) → (pre ++ l).length ≤ fuel → hoistGo X f all pre l listed s K → Ok w0 ρ s a w →
      wpAny P .any all.toArray Q fuel listed a w
  | [], pre, fuel, listed, s, ρ, a, hl, hf, h, hok => hn fuel listed pre s ρ a (by simpa using hl) (by simpa using hf) h hok
  | (i, o) :: l, pre, fuel, listed, s, ρ, a, hl, hf, h, hok => by
    unfold hoistGo at h
    cases hm : wrO (X.wr f) 27000000 o.dst with
    | false =>
      rw [hm] at h
      exact hoist_sound hE hQ w hn l (pre ++ [(i, o)]) fuel listed s ρ a (by simpa using hl) (by simpa using hf) h hok
    | true =>
      rw [hm] at h
      simp only [cond_true] at h
      split at h
      · rename_i p v hx
        cases ho : hoistOk all listed i o with
        | false => rw [ho] at h; exact h.elim
        | true =>
          rw [ho] at h
          simp only [cond_true] at h
          simp only [hoistOk, Bool.and_eq_true, List.all_eq_true] at ho
          obtain ⟨hb, hsel, hfree⟩ := ho
          have hjx := (hl.mem i o).1 (by simp)
          have hi : all.toArray[i]? = some o := by simpa using hjx.1
          have hnb : ∀ e ∈ o.after, Region.binds .any e = true → listed.getD e.on false = true := fun e he hbe => by
            have := hb e (by simpa using he)
            simpa [hbe] using this
          have hr : (Region.ready .any all.toArray listed).contains i = true := by
            have : i ∈ Region.ready .any all.toArray listed := mem_ready.2 ⟨hjx.2, o, hi, hnb⟩
            simpa using this
          have hlen : (pre ++ (i, o) :: l).length = (pre ++ l).length + 1 := by simp; omega
          obtain ⟨m, rfl⟩ : ∃ m, fuel = m + 1 := ⟨fuel - 1, by omega⟩
          have hp : vcP p ∧ hoistGo X f all pre l (listed.setIfInBounds i true) (s.put o.dst v) K := by
            cases p with
            | none => exact ⟨trivial, h⟩
            | some q => exact h
          obtain ⟨u, hy, hv⟩ := hoistV_yields (ops := all.toArray) hE hok hx hp.1
          refine wpAny_take hi hsel hfree hr (fun c a w hq => absurd hq (hQ _ _ _)) hy ?_
          exact hoist_sound hE hQ w hn l pre m _ _ ρ _ (listed_next hl hnb) (by omega) hp.2 (hok.put o.dst hv)
      · exact h.elim
theorem drawnB_sound {id : Nat} {os : Array Oper} {s : St} {K : St → Prop} {Q : Exit → Act → World → Prop} (hX : FxOk P X) (hcall : CallOk P callK) (hK : CtrBy X callK)
    (hQ : ∀ ρ' s' a' w', Ok w0 ρ' s' a' w' → K s' → Q .normal a' w') (h : drawnB X callK f os.toList s K) (hok : Ok w0 ρ s a w) : (Code.region id os true).wp P Q a w := by
  refine wp_mono (Q := fun e a w => e = .normal ∧ Q .normal a w) ?_ (fun e a w hq => by rw [hq.1]; exact hq.2)
  refine wp_region_any hX.mixed ?_
  unfold drawnB at h
  simp only [] at h
  generalize masks os.toList [] = ms at h
  cases hst : statOk os.toList ms (numbered 0 os.toList) (numbered 0 os.toList) with
  | false => rw [hst] at h; exact h.elim
  | true =>
    rw [hst] at h
    simp only [cond_true] at h
    have hok1 : Ok w0 ρ { s with nx := s.nx + os.toList.length } a { w with drawn := w.drawn + 1 } := by
      have : Ok w0 ρ { s with nx := s.nx + os.toList.length } a w := { hok with }
      exact this.more (More.drew w)
    have hlst : Listed os.toList (Array.replicate os.toList.length false) ([] ++ numbered 0 os.toList) := by simpa using listed_start (os := os)
    have := hoist_sound (P := P) (X := X) (f := f) (all := os.toList) (Q := fun e a w => e = .normal ∧ Q .normal a w) hX.env (fun c a w hq => by cases hq.1) { w with drawn := w.drawn + 1 }
      (fun fuel listed rest s1 ρ1 a1 hl hf hk hok => wpAny_drunB (f := f) (nb := s.nx) hX hcall hK (statOk_spec hst) (fun ρ' s' a' w' ho hk => ⟨rfl, hQ ρ' s' a' w' ho hk⟩) os.toList.length fuel listed rest s1 ρ1 a1 _ hl hf hk hok)
      (numbered 0 os.toList) [] os.size _ _ ρ a hlst (by simp [numbered_length]) h hok1
    simpa using this
end
end Go.Sx
