/-
  Sx, part U: a region that draws its order does what the executor says.
-/
import Derived.Test.YtollphjlheabdaaSxT
import Derived.Orders
namespace Go.Sx

section
variable {P : Program} {X : Fx} {f nb : Nat} {all : List Oper} {ms : List Nat} {callK : Nat → List SV → St → (SV → St → Prop) → Prop}
  {w0 : Base} {w : World} {ρ : Nat → Value} {s s1 t : St} {a : Act}

/-- What has a contract is called by it. -/
def CtrBy (X : Fx) (callK : Nat → List SV → St → (SV → St → Prop) → Prop) : Prop :=
  ∀ g c, X.K g = some c → ∀ args s K, ctrS c s args K → callK g args s K

theorem ctrD_S {c : Ctr} {args : List SV} {d : Option Nat} {p : Option Prop} (h : ctrD c s args d = some (p, t)) (hp : vcP p) : ctrS c s args (fun v s' => s'.put d v = t) := by
  unfold ctrD at h
  unfold ctrS
  cases hn : c.rs.all noSl with
  | true =>
    rw [hn] at h
    simp only [cond_true] at h ⊢
    split at h
    · cases h
      exact ⟨hp, rfl⟩
    · cases h
  | false =>
    rw [hn] at h
    simp only [cond_false] at h ⊢
    split at h
    · split at h
      · cases h
        exact ⟨hp, rfl⟩
      · cases h
    · cases h
theorem stepD_op1 (hK : CtrBy X callK) {k : Nat} {o : Oper} {p : Option Prop} (h : stepD X f s k o = some (p, t)) (hp : vcP p) : op1 X callK f s k o (fun s' => s' = t) := by
  unfold stepD at h
  unfold op1
  cases hc : callee1 s o.op with
  | some ga =>
    obtain ⟨g, args⟩ := ga
    rw [hc] at h
    simp only [] at h
    split at h
    · rename_i c hct
      have hc' : callee? s o.op = some (g, args) := by
        revert hc
        cases o.op with
        | call c =>
          simp only [callee1, callee?]
          cases c.callee with
          | value x => cases x <;> intro hc <;> first | exact hc | cases hc
          | _ => intro hc; cases hc
        | _ => intro hc; cases hc
      rw [hc']
      exact hK g c hct args s _ (ctrD_S h hp)
    · cases h
  | none =>
    rw [hc] at h
    simp only [] at h
    cases hc' : callee? s o.op with
    | none =>
      simp only []
      rw [h]
      cases p with
      | none => rfl
      | some p => exact ⟨hp, rfl⟩
    | some ga =>
      exfalso
      revert h hc'
      cases ho : o.op with
      | call c =>
        simp only [callee?, opS, ho]
        cases hcc : c.callee with
        | value x => intro h; simp [builtS] at h
        | _ => intro _ h; cases h
      | _ => intro _ h; cases h

/-- Is the operation wanted? -/
theorem gd_ok {o : Oper} {b : Bool} (hok : Ok w0 ρ s a w) (h : gd all o s = some (b, s1)) : Region.wanted o (yielded all.toArray a.tmps) = b ∧ Ok w0 ρ s1 a w := by
  unfold gd at h
  split at h
  · rename_i hg
    cases h
    exact ⟨by simp [Region.wanted, hg], hok⟩
  · rename_i j want hg
    split at h
    · rename_i d hd
      have hv := hok.frame d
      split at h
      · rename_i c hc
        cases h
        rw [hc] at hv
        have hb : [a.tmps.getD d undef] = [.bool c] := SVc.one1 rfl (by simp) hv
        simp only [List.cons.injEq, and_true] at hb
        have hy := yield_bool hd hb
        exact ⟨by simp only [Region.wanted, hg, hy]; cases c <;> cases want <;> rfl, hok.tell d (v := .one (.lit c)) (by rw [hb]; exact sv_lit c)⟩
      · rename_i c hc
        cases h
        rw [hc] at hv
        have hb : [a.tmps.getD d undef] = [.bool c] := SVc.one1 rfl (by simp) hv
        simp only [List.cons.injEq, and_true] at hb
        have hy := yield_bool hd hb
        exact ⟨by simp only [Region.wanted, hg, hy]; cases c <;> cases want <;> rfl, hok.tell d (v := .one (.lit c)) (by rw [hb]; exact sv_lit c)⟩
      · rename_i hc
        cases h
        rw [hc] at hv
        obtain ⟨vs, hvs, he⟩ := hv
        have hu : a.tmps.getD d undef = undef := by
          rw [hvs]
          have he : vs.toList = [] := he
          have : vs = #[] := by simpa using he
          rw [this]; rfl
        exact ⟨by simp [Region.wanted, hg, yield_none hd hu], hok⟩
      · cases h
    · cases h

theorem dstep_sound {i : Nat} {o : Oper} {p : Option Prop} {F W : List Nat} {N : Act → World → Prop} {Q : Exit → Act → World → Prop} (hX : FxOk P X) (hcall : CallOk P callK) (hK : CtrBy X callK)
    (ho : all[i]? = some o) (hok : Ok w0 ρ s a w) (h : dstep X f nb all i o s = some (p, t, F, W)) (hp : vcP p) (hN : ∀ ρ' a' w', Ok w0 ρ' t a' w' → N a' w') : wpOp P all.toArray Q i N a w := by
  unfold wpOp
  have ho' : all.toArray[i]? = some o := by simpa using ho
  rw [ho']
  simp only []
  unfold dstep at h
  split at h
  · rename_i s1 hgd
    obtain ⟨hw, hok1⟩ := gd_ok hok hgd
    rw [hw]
    simp only [if_true]
    split at h
    · rename_i pp tt hst
      cases h
      exact .inl (op1_sound hX hcall hok1 (stepD_op1 hK hst hp) (fun ρ' s' a' w' hok' hs => hN ρ' a' w' (hs ▸ hok')))
    · cases h
  · rename_i s1 hgd
    obtain ⟨hw, hok1⟩ := gd_ok hok hgd
    rw [hw]
    simp only [Bool.false_eq_true, if_false]
    cases h
    exact hN ρ _ _ (hok1.put o.dst sv_undef)
  · cases h

/-! ### The orders. -/
theorem numbered_get : ∀ {l : List Oper} {n i : Nat} {o : Oper}, (i, o) ∈ numbered n l ↔ n ≤ i ∧ l[i - n]? = some o
  | [], _, _, _ => by simp [numbered]
  | x :: l, n, i, o => by
    simp only [numbered, List.mem_cons, Prod.mk.injEq, numbered_get (l := l)]
    constructor
    · rintro (⟨rfl, rfl⟩ | ⟨h1, h2⟩)
      · simp
      · refine ⟨by omega, ?_⟩
        rw [show i - n = (i - (n + 1)) + 1 by omega]; simpa using h2
    · rintro ⟨h1, h2⟩
      by_cases e : i = n
      · subst e; simp at h2; exact .inl ⟨rfl, h2.symm⟩
      · right
        refine ⟨by omega, ?_⟩
        rw [show i - n = (i - (n + 1)) + 1 by omega] at h2; simpa using h2
theorem numbered_sorted : ∀ {l : List Oper} {n : Nat}, (numbered n l).Pairwise (fun x y => x.1 < y.1)
  | [], _ => List.Pairwise.nil
  | x :: l, n => List.Pairwise.cons (fun e he => by
      obtain ⟨i, o⟩ := e
      have := (numbered_get.1 he).1
      show n < i
      omega) numbered_sorted

structure Stat (all : List Oper) (ms : List Nat) : Prop where
  after : ∀ j x, all[j]? = some x → ∀ e ∈ x.after, Region.binds .any e = true → e.on < j
  anc : ∀ i j x y, all[j]? = some x → all[i]? = some y → i < j → Nat.testBit (mget ms j) i = true → ∃ e ∈ x.after, Region.binds .any e = true ∧ (e.on = i ∨ (i < e.on ∧ Nat.testBit (mget ms e.on) i = true))
  apart : ∀ i j x y, all[j]? = some x → all[i]? = some y → i < j → Nat.testBit (mget ms j) i = false → sapart all y x = true

theorem statJ_spec {j : Nat} {x : Oper} : ∀ {l : List (Nat × Oper)}, l.Pairwise (fun x y => x.1 < y.1) → statJ all ms j x l = true → ∀ i y, (i, y) ∈ l → i < j →
    (bif Nat.testBit (mget ms j) i then x.after.toList.any (fun e => Region.binds .any e && (Nat.beq e.on i || (Nat.blt i e.on && Nat.testBit (mget ms e.on) i))) else sapart all y x) = true
  | [], _, _, _, _, h, _ => by cases h
  | (i', y') :: r, hs, h, i, y, hm, hij => by
    unfold statJ at h
    cases hb : Nat.blt i' j with
    | false =>
      have hlt : ¬ i' < j := fun hh => by
        have : Nat.blt i' j = true := by simpa using hh
        rw [this] at hb; cases hb
      rcases List.mem_cons.1 hm with e | hm
      · cases e; exact absurd hij hlt
      · have := (List.pairwise_cons.1 hs).1 _ hm
        omega
    | true =>
      rw [hb] at h
      simp only [cond_true] at h
      generalize hc : (bif Nat.testBit (mget ms j) i' then x.after.toList.any (fun e => Region.binds .any e && (Nat.beq e.on i' || (Nat.blt i' e.on && Nat.testBit (mget ms e.on) i'))) else sapart all y' x) = c at h
      cases c with
      | false => cases h
      | true =>
        rcases List.mem_cons.1 hm with e | hm
        · cases e; exact hc
        · exact statJ_spec (List.pairwise_cons.1 hs).2 h i y hm hij
theorem statOk_spec' {ns : List (Nat × Oper)} : ∀ {l : List (Nat × Oper)}, statOk all ms ns l = true → ∀ j x, (j, x) ∈ l →
    x.after.toList.all (fun e => bif Region.binds .any e then Nat.blt e.on j else true) = true ∧ statJ all ms j x ns = true
  | [], _, _, _, h => by cases h
  | (j', x') :: r, h, j, x, hm => by
    unfold statOk at h
    cases hb : (x'.after.toList.all (fun e => bif Region.binds .any e then Nat.blt e.on j' else true) && statJ all ms j' x' ns) with
    | false => rw [hb] at h; cases h
    | true =>
      rw [hb] at h
      rcases List.mem_cons.1 hm with e | hm
      · cases e; simpa using hb
      · exact statOk_spec' h j x hm
theorem statOk_spec (h : statOk all ms (numbered 0 all) (numbered 0 all) = true) : Stat all ms := by
  have key := fun j x (hj : all[j]? = some x) => statOk_spec' h j x (numbered_get.2 ⟨Nat.zero_le _, by simpa using hj⟩)
  have keyJ := fun i j x y (hj : all[j]? = some x) (hi : all[i]? = some y) (hij : i < j) => statJ_spec numbered_sorted (key j x hj).2 i y (numbered_get.2 ⟨Nat.zero_le _, by simpa using hi⟩) hij
  refine ⟨fun j x hj e he hb => ?_, fun i j x y hj hi hij ht => ?_, fun i j x y hj hi hij ht => ?_⟩
  · have := List.all_eq_true.1 (key j x hj).1 e (by simpa using he)
    rw [hb] at this
    simpa using this
  · have := keyJ i j x y hj hi hij
    rw [ht] at this
    simp only [cond_true] at this
    obtain ⟨e, he, hh⟩ := List.any_eq_true.1 this
    simp only [Bool.and_eq_true, Bool.or_eq_true] at hh
    exact ⟨e, by simpa using he, hh.1, hh.2.imp (fun h => Nat.eq_of_beq_eq_true h) (fun h => ⟨by simpa using h.1, h.2⟩)⟩
  · have := keyJ i j x y hj hi hij
    rw [ht] at this
    exact this

structure Listed (all : List Oper) (listed : Array Bool) (rest : List (Nat × Oper)) : Prop where
  size : listed.size = all.length
  mem : ∀ i o, (i, o) ∈ rest ↔ all[i]? = some o ∧ listed.getD i true = false
  sorted : rest.Pairwise (fun x y => x.1 < y.1)
  closed : ∀ i o, all[i]? = some o → listed.getD i false = true → ∀ e ∈ o.after, Region.binds .any e = true → listed.getD e.on false = true

theorem getD_flip {listed : Array Bool} {i : Nat} (hi : i < listed.size) : listed.getD i true = listed.getD i false := by
  simp [Array.getD, hi]
theorem lt_of_get {i : Nat} {o : Oper} (h : all[i]? = some o) : i < all.length := (List.getElem?_eq_some_iff.1 h).1

/-- What comes ahead of a listed operation is listed. -/
theorem anc_listed {listed : Array Bool} {rest : List (Nat × Oper)} (hs : Stat all ms) (hl : Listed all listed rest) : ∀ (j i : Nat) (x y : Oper), all[j]? = some x → all[i]? = some y → i < j →
    (∀ e ∈ x.after, Region.binds .any e = true → listed.getD e.on false = true) → Nat.testBit (mget ms j) i = true → listed.getD i false = true := by
  intro j
  induction j using Nat.strongRecOn with
  | _ j ih =>
    intro i x y hj hi hij hd ht
    obtain ⟨e, he, hb, h⟩ := hs.anc i j x y hj hi hij ht
    have hlist := hd e he hb
    rcases h with h | h
    · rw [← h]; exact hlist
    · have hej := hs.after j x hj e he hb
      have hlt : e.on < all.length := Nat.lt_trans hej (lt_of_get hj)
      obtain ⟨z, hz⟩ : ∃ z, all[e.on]? = some z := ⟨_, List.getElem?_eq_getElem hlt⟩
      exact ih e.on hej i z y hz hi h.1 (hl.closed e.on z hz hlist) h.2

theorem listed_next {listed : Array Bool} {l1 l2 : List (Nat × Oper)} {j : Nat} {x : Oper} (hl : Listed all listed (l1 ++ (j, x) :: l2))
    (hd : ∀ e ∈ x.after, Region.binds .any e = true → listed.getD e.on false = true) : Listed all (listed.setIfInBounds j true) (l1 ++ l2) := by
  have hj := (hl.mem j x).1 (by simp)
  have hjs : j < listed.size := by rw [hl.size]; exact lt_of_get hj.1
  have hpw := hl.sorted
  rw [List.pairwise_append] at hpw
  refine ⟨by simpa using hl.size, fun i o => ?_, ?_, fun i o hi hli e he hb => ?_⟩
  · by_cases e : i = j
    · subst e
      have e1 : (listed.setIfInBounds i true).getD i true = true := by simp
      rw [e1]
      refine ⟨fun h => ?_, fun h => by simp at h⟩
      exfalso
      rcases List.mem_append.1 h with h | h
      · have := hpw.2.2 _ h (i, x) (by simp)
        exact Nat.lt_irrefl _ this
      · have := (List.pairwise_cons.1 hpw.2.1).1 _ h
        exact Nat.lt_irrefl _ this
    · have e1 : (listed.setIfInBounds j true).getD i true = listed.getD i true := getD_set_ne true (Ne.symm e)
      rw [e1, ← hl.mem i o]
      simp [e]
  · exact List.pairwise_append.2 ⟨hpw.1, (List.pairwise_cons.1 hpw.2.1).2, fun a ha b hb => hpw.2.2 a ha b (by simp [hb])⟩
  · refine getD_set_true ?_
    by_cases e' : i = j
    · subst e'
      have : o = x := by rw [hj.1] at hi; cases hi; rfl
      subst this
      exact hd e he hb
    · rw [getD_set_ne false (Ne.symm e')] at hli
      exact hl.closed i o hi hli e he hb

theorem wpAny_drun {K : St → Prop} {Q : Exit → Act → World → Prop} (hX : FxOk P X) (hcall : CallOk P callK) (hK : CtrBy X callK) (hs : Stat all ms)
    (hQ : ∀ ρ' s' a' w', Ok w0 ρ' s' a' w' → K s' → Q .normal a' w') :
    ∀ (fuel : Nat) (listed : Array Bool) (rest : List (Nat × Oper)) (acc : List Rec) (s : St) (ρ : Nat → Value) (a : Act) (w : World), Listed all listed rest → rest.length ≤ fuel →
      drunR X f nb all ms rest acc s K → Ok w0 ρ s a w → wpAny P .any all.toArray Q fuel listed a w := by
  have ready_mem : ∀ {listed : Array Bool} {rest : List (Nat × Oper)}, Listed all listed rest → ∀ i, i ∈ Region.ready .any all.toArray listed →
      ∃ x, (i, x) ∈ rest ∧ ∀ e ∈ x.after, Region.binds .any e = true → listed.getD e.on false = true := fun hl i hi => by
    obtain ⟨h0, x, hx, he⟩ := mem_ready.1 hi
    exact ⟨x, (hl.mem i x).2 ⟨by simpa using hx, h0⟩, he⟩
  have empty : ∀ {listed : Array Bool} {rest : List (Nat × Oper)}, Listed all listed rest → Region.ready .any all.toArray listed = [] → rest = [] := fun {listed} {rest} hl hr => by
    cases rest with
    | nil => rfl
    | cons ix r =>
      exfalso
      obtain ⟨i, x⟩ := ix
      have hi := (hl.mem i x).1 (by simp)
      have : i ∈ Region.ready .any all.toArray listed := mem_ready.2 ⟨hi.2, x, by simpa using hi.1, fun e he hb => by
        have hlt := hs.after i x hi.1 e he hb
        have hlt' : e.on < all.length := Nat.lt_trans hlt (lt_of_get hi.1)
        have hsz : e.on < listed.size := by rw [hl.size]; exact hlt'
        cases hb' : listed.getD e.on false with
        | true => rfl
        | false =>
          have hm := (hl.mem e.on all[e.on]).2 ⟨List.getElem?_eq_getElem hlt', by rw [getD_flip hsz]; exact hb'⟩
          rcases List.mem_cons.1 hm with h | h
          · have : e.on = i := congrArg (·.1) h
            omega
          · have := (List.pairwise_cons.1 hl.sorted).1 _ h
            have : i < e.on := this
            omega⟩
      rw [hr] at this; cases this
  intro fuel
  induction fuel with
  | zero =>
    intro listed rest acc s ρ a w hl hf h hok
    have : rest = [] := List.eq_nil_of_length_eq_zero (by omega)
    subst this
    refine ⟨?_, hQ ρ s a w hok h⟩
    cases hr : Region.ready .any all.toArray listed with
    | nil => rfl
    | cons i r =>
      obtain ⟨x, hx, _⟩ := ready_mem hl i (by rw [hr]; simp)
      cases hx
  | succ fuel ih =>
    intro listed rest acc s ρ a w hl hf h hok
    refine ⟨fun hr => ?_, fun j hj => ?_⟩
    · have := empty hl hr
      subst this
      exact hQ ρ s a w hok h
    · obtain ⟨x, hx, hd⟩ := ready_mem hl j hj
      obtain ⟨l1, l2, rfl⟩ := List.append_of_mem hx
      have hjx := (hl.mem j x).1 hx
      have hpw := hl.sorted
      rw [List.pairwise_append] at hpw
      have hap : ∀ e ∈ l1, sapart all e.2 x = true ∧ ord ms j e.1 = false ∧ ord ms e.1 j = false := by
        rintro ⟨i, y⟩ he
        have hij : i < j := hpw.2.2 _ he (j, x) (by simp)
        have hiy := (hl.mem i y).1 (by simp [he])
        have hsz : i < listed.size := by rw [hl.size]; exact lt_of_get hiy.1
        have hbit : Nat.testBit (mget ms j) i = false := by
          cases hb : Nat.testBit (mget ms j) i with
          | false => rfl
          | true =>
            have := anc_listed hs hl j i x y hjx.1 hiy.1 hij hd hb
            rw [← getD_flip hsz, hiy.2] at this
            cases this
        have h1 : Nat.blt i j = true := by simpa using hij
        have h2 : Nat.blt j i = false := by
          cases hb : Nat.blt j i with
          | false => rfl
          | true =>
            have : j < i := by simpa using hb
            omega
        exact ⟨hs.apart i j x y hjx.1 hiy.1 hij hbit, by simp only [ord, h2, cond_false]; exact hbit, by simp only [ord, h1, cond_true]; exact hbit⟩
      obtain ⟨p, t, F, W, e1, _, e3, e4⟩ := bubble hap h
      refine dstep_sound hX hcall hK hjx.1 hok e1 e3 fun ρ' a' w' hok' => ?_
      refine ih _ _ _ _ ρ' a' w' (listed_next hl hd) ?_ e4 hok'
      simp only [List.length_append, List.length_cons] at hf ⊢
      omega

theorem drawn_sound {id : Nat} {os : Array Oper} {s : St} {K : St → Prop} {Q : Exit → Act → World → Prop} (hX : FxOk P X) (hcall : CallOk P callK) (hK : CtrBy X callK)
    (hQ : ∀ ρ' s' a' w', Ok w0 ρ' s' a' w' → K s' → Q .normal a' w') (h : drawn X f os.toList s K) (hok : Ok w0 ρ s a w) : (Code.region id os true).wp P Q a w := by
  refine wp_region_any hX.mixed ?_
  unfold drawn at h
  simp only [] at h
  generalize masks os.toList [] = ms at h
  cases hst : statOk os.toList ms (numbered 0 os.toList) (numbered 0 os.toList) with
  | false => rw [hst] at h; exact h.elim
  | true =>
    rw [hst] at h
    simp only [cond_true] at h
    have hok1 : Ok w0 ρ { s with nx := s.nx + os.toList.length } a { w with drawn := w.drawn + 1 } := by
      have : Ok w0 ρ { s with nx := s.nx + os.toList.length } a w := { hok with }
      exact this.more (More.drew w)
    have hl : Listed os.toList (Array.replicate os.size false) (numbered 0 os.toList) := by
      refine ⟨by simp, fun i o => ?_, numbered_sorted, fun i o hi hli => ?_⟩
      · rw [numbered_get]
        simp only [Nat.zero_le, Nat.sub_zero, true_and]
        constructor
        · intro h
          have := lt_of_get h
          refine ⟨h, ?_⟩
          have hlt : i < os.size := by simpa using this
          simp [hlt]
        · exact fun h => h.1
      · exfalso
        have := lt_of_get hi
        have hlt : i < os.size := by simpa using this
        simp [hlt] at hli
    have hlen : (numbered 0 os.toList).length ≤ os.size := by
      have : ∀ (l : List Oper) (n : Nat), (numbered n l).length = l.length := fun l => by
        induction l with
        | nil => intro n; rfl
        | cons x l ih => intro n; simp [numbered, ih]
      rw [this]; simp
    have := wpAny_drun (f := f) (nb := s.nx) (Q := Q) hX hcall hK (statOk_spec hst) hQ os.size _ _ [] _ ρ a _ hl hlen (drun_R _ _ _ h) hok1
    simpa using this
end
end Go.Sx
