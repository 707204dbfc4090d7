/-
  Sx, part T: a region that draws its order: all its orders come to the same.
-/
import Derived.Test.YtpnmfoojmodnlaaSxP
namespace Go.Sx

theorem lset_same : ∀ (l : List SV) (n : Nat) (v : SV), lget l n = v → v ≠ .one .any → lset l n v = l
  | [], _, _, _, _ => rfl
  | _ :: _, 0, _, h, _ => by subst h; rfl
  | x :: xs, n + 1, v, h, hv => by simp [lset, lset_same xs n v h hv]
theorem lget_ext : ∀ {l m : List SV}, l.length = m.length → (∀ i, lget l i = lget m i) → l = m
  | [], [], _, _ => rfl
  | x :: l, y :: m, h, he => by
    have h0 := he 0
    have hr := lget_ext (l := l) (m := m) (by simpa using h) (fun i => he (i + 1))
    rw [show x = y from h0, hr]
  | [], _ :: _, h, _ => by cases h
  | _ :: _, [], h, _ => by cases h
theorem lget_lset (l : List SV) (n : Nat) (v : SV) (i : Nat) : lget (lset l n v) i = if n = i ∧ i < l.length then v else lget l i := by
  by_cases e : n = i
  · subst e
    rw [lget_lset_eq]
    by_cases h : n < l.length
    · simp [h]
    · have : lget l n = .one .any := by
        clear v
        induction l generalizing n with
        | nil => rfl
        | cons x l ih =>
          cases n with
          | zero => simp at h
          | succ n => exact ih n (by simpa using h)
      simp [h, this]
  · rw [lget_lset_ne _ _ _ _ e]; simp [e]

/-! ### The step as a function. -/
def gd (all : List Oper) (o : Oper) (s : St) : Option (Bool × St) :=
  match o.guard with
  | none => some (true, s)
  | some (j, want) => (match dstAt all j with
    | some d => (match lget s.fr d with
      | .one (.lit b) => some (b == want, s.put (some d) (.one (.lit b)))
      | .one (.d .bool b) => some (b == want, s.put (some d) (.one (.lit b)))
      | .tup [] => some (false, s)
      | _ => none)
    | none => none)
def dstep (X : Fx) (f nb : Nat) (all : List Oper) (i : Nat) (o : Oper) (s : St) : Option (Option Prop × St × List Nat × List Nat) :=
  match gd all o s with
  | some (true, s1) => (match stepD X f s1 (nb + i) o with
    | some (p, t) => some (p, t, opF s1 (nb + i) o.op, opW (lzO X f o) s1 (nb + i) o.op)
    | none => none)
  | some (false, s1) => some (none, s1.put o.dst (.tup []), [], [])
  | none => none
def drunR (X : Fx) (f nb : Nat) (all : List Oper) (ms : List Nat) : List (Nat × Oper) → List Rec → St → (St → Prop) → Prop
  | [], _, s, K => K s
  | (i, o) :: r, acc, s, K => ∃ p t F W, dstep X f nb all i o s = some (p, t, F, W) ∧ chk ms i F W acc = true ∧ vcP p ∧ drunR X f nb all ms r ((i, F, W) :: acc) t K

section
variable {X : Fx} {f nb : Nat} {all : List Oper} {ms : List Nat}

theorem dgo_step {i : Nat} {o : Oper} {acc : List Rec} {s s1 : St} {rest : List Rec → St → Prop} (hg : gd all o s = some (true, s1)) (h : dgo X f nb ms i o acc s1 rest) :
    ∃ p t F W, dstep X f nb all i o s = some (p, t, F, W) ∧ chk ms i F W acc = true ∧ vcP p ∧ rest ((i, F, W) :: acc) t := by
  unfold dgo at h
  split at h
  · rename_i pp t hs
    cases hc : chk ms i (opF s1 (nb + i) o.op) (opW (lzO X f o) s1 (nb + i) o.op) acc with
    | false => rw [hc] at h; exact h.elim
    | true =>
      rw [hc] at h
      simp only [cond_true] at h
      refine ⟨pp, t, _, _, by simp only [dstep, hg, hs], hc, ?_⟩
      cases pp with
      | none => exact ⟨trivial, h⟩
      | some p => exact h
  · exact h.elim
theorem dskip_step {i : Nat} {o : Oper} {acc : List Rec} {s s1 : St} {rest : List Rec → St → Prop} (hg : gd all o s = some (false, s1)) (h : dskip ms i o acc s1 rest) :
    ∃ p t F W, dstep X f nb all i o s = some (p, t, F, W) ∧ chk ms i F W acc = true ∧ vcP p ∧ rest ((i, F, W) :: acc) t := by
  unfold dskip at h
  cases hc : chk ms i [] [] acc with
  | false => rw [hc] at h; exact h.elim
  | true =>
    rw [hc] at h
    exact ⟨none, _, _, _, by simp only [dstep, hg], hc, trivial, h⟩

theorem put_same {s : St} {d : Nat} {b : Bool} (h : lget s.fr d = .one (.lit b)) : s.put (some d) (.one (.lit b)) = s := by
  show ({ s with fr := lset s.fr d (.one (.lit b)) } : St) = s
  rw [lset_same _ _ _ h (by simp)]

theorem drun_R : ∀ (r : List (Nat × Oper)) (acc : List Rec) (s : St) {K : St → Prop}, drun X f nb all ms r acc s K → drunR X f nb all ms r acc s K
  | [], _, _, _, h => h
  | (i, o) :: r, acc, s, K, h => by
    unfold drun at h
    unfold drunR
    have fin : (∃ p t F W, dstep X f nb all i o s = some (p, t, F, W) ∧ chk ms i F W acc = true ∧ vcP p ∧ drun X f nb all ms r ((i, F, W) :: acc) t K) →
        ∃ p t F W, dstep X f nb all i o s = some (p, t, F, W) ∧ chk ms i F W acc = true ∧ vcP p ∧ drunR X f nb all ms r ((i, F, W) :: acc) t K :=
      fun ⟨p, t, F, W, h1, h2, h3, h4⟩ => ⟨p, t, F, W, h1, h2, h3, drun_R r _ _ h4⟩
    refine fin ?_
    split at h
    · rename_i hg
      exact dgo_step (by simp only [gd, hg]) h
    · rename_i j want hg
      split at h
      · rename_i d hd
        split at h
        · rename_i b hb
          have hgd : gd all o s = some (b == want, s) := by simp only [gd, hg, hd, hb, put_same hb]
          cases hx : Bool.xor b want with
          | true =>
            rw [hx] at h
            simp only [cond_true] at h
            exact dskip_step (by rw [hgd]; cases b <;> cases want <;> first | rfl | cases hx) h
          | false =>
            rw [hx] at h
            simp only [cond_false] at h
            exact dgo_step (by rw [hgd]; cases b <;> cases want <;> first | rfl | cases hx) h
        · rename_i b hb
          have hgd : gd all o s = some (b == want, s.put (some d) (.one (.lit b))) := by simp only [gd, hg, hd, hb]
          by_cases e : b = want
          · exact dgo_step (s1 := s.put (some d) (.one (.lit want))) (by rw [hgd, e]; simp) (h.1 e)
          · have e' : b = !want := by cases b <;> cases want <;> first | rfl | exact absurd rfl e
            exact dskip_step (s1 := s.put (some d) (.one (.lit !want))) (by rw [hgd, e']; cases want <;> rfl) (h.2 e')
        · rename_i hb
          exact dskip_step (by simp only [gd, hg, hd, hb]) h
        · exact h.elim
      · exact h.elim

theorem drunR_mono {L L' : List (Nat × Oper)} {i : Nat} {o : Oper} {acc : List Rec} {s : St} {K : St → Prop} (hL : ∀ acc s, drunR X f nb all ms L acc s K → drunR X f nb all ms L' acc s K)
    (h : drunR X f nb all ms ((i, o) :: L) acc s K) : drunR X f nb all ms ((i, o) :: L') acc s K := by
  obtain ⟨p, t, F, W, h1, h2, h3, h4⟩ := h
  exact ⟨p, t, F, W, h1, h2, h3, hL _ _ h4⟩

/-! ### What was looked at ahead counts as a set. -/
theorem chk_iff {i : Nat} {F W : List Nat} : ∀ {acc : List Rec}, chk ms i F W acc = true ↔ ∀ e ∈ acc, (ord ms i e.1 || (disj e.2.2 F && (disj W e.2.1 && disj W e.2.2))) = true
  | [] => by simp [chk]
  | (j, F', W') :: r => by
    unfold chk
    cases hb : (ord ms i j || (disj W' F && (disj W F' && disj W W'))) with
    | false =>
      refine ⟨fun h => (by cases h), fun h => ?_⟩
      have := h _ (List.mem_cons_self ..)
      rw [hb] at this; cases this
    | true => simp only [cond_true, List.forall_mem_cons, hb, true_and]; exact chk_iff
theorem drunR_acc : ∀ {r : List (Nat × Oper)} {acc acc' : List Rec} {s : St} {K : St → Prop}, (∀ e, e ∈ acc ↔ e ∈ acc') → drunR X f nb all ms r acc s K → drunR X f nb all ms r acc' s K
  | [], _, _, _, _, _, h => h
  | (i, o) :: r, acc, acc', s, K, ha, h => by
    obtain ⟨p, t, F, W, h1, h2, h3, h4⟩ := h
    refine ⟨p, t, F, W, h1, chk_iff.2 fun e he => chk_iff.1 h2 e ((ha e).2 he), h3, drunR_acc (fun e => ?_) h4⟩
    simp [ha e]
theorem memN'_iff {n : Nat} : ∀ {l : List Nat}, disj.memN' n l = true ↔ n ∈ l
  | [] => by simp [disj.memN']
  | k :: r => by
    unfold disj.memN'
    cases hb : Nat.beq n k with
    | true => simp [Nat.eq_of_beq_eq_true hb]
    | false => simp only [cond_false, List.mem_cons, memN'_iff, Nat.ne_of_beq_eq_false hb, false_or]
theorem disj_iff {b : List Nat} : ∀ {a : List Nat}, disj a b = true ↔ ∀ n ∈ a, n ∉ b
  | [] => by simp [disj]
  | n :: r => by
    unfold disj
    cases hb : disj.memN' n b with
    | true => simp [memN'_iff.1 hb]
    | false =>
      have : n ∉ b := fun h => by rw [memN'_iff.2 h] at hb; cases hb
      simp only [cond_false, List.forall_mem_cons, this, not_false_eq_true, true_and]; exact disj_iff
theorem disj_symm {a b : List Nat} (h : disj a b = true) : disj b a = true := disj_iff.2 fun n hn hm => disj_iff.1 h n hm hn

/-! ### A step looks only at what it says that it looks at. -/
section
variable {s s' : St}
theorem res_frame {q : PV} (h : ∀ n ∈ q.names, s'.hp n = s.hp n) : PV.res s' q = PV.res s q := by
  cases q with
  | row k => simp [PV.names] at h; simp [PV.res, h]
  | sub k k' sz a b => simp only [PV.res]; rw [slD_frame (x := .one (.sub k k' sz a b)) h]
  | bsl k off n sz => simp only [PV.res]; rw [slD_frame (x := .one (.bsl k off n sz)) h]
  | _ => rfl
theorem resPs_frame : ∀ {ps : List PV}, (∀ n ∈ psNames ps, s'.hp n = s.hp n) → ps.map (PV.res s') = ps.map (PV.res s)
  | [], _ => rfl
  | q :: ps, h => by
    simp only [List.map_cons]
    rw [res_frame fun n hn => h n (List.mem_append_left _ hn), resPs_frame fun n hn => h n (List.mem_append_right _ hn)]
theorem explode_names : ∀ {t : Ty} {x : t.D}, psNames (explode t x) = []
  | .int _, _ => rfl
  | .bool, _ => rfl
  | .str, _ => rfl
  | .sl _, _ => rfl
  | .arr _ _, _ => rfl
  | .ref _, _ => rfl
  | .err, _ => rfl
  | .mp _ _, _ => rfl
  | .pair a b, x => by
    have happ : ∀ (u v : List PV), psNames (u ++ v) = psNames u ++ psNames v := fun u v => by
      induction u with
      | nil => rfl
      | cons q u ih => simp [psNames, ih]
    show psNames (explode a x.1 ++ explode b x.2) = []
    rw [happ, explode_names, explode_names]; rfl
theorem psNames_append : ∀ (u v : List PV), psNames (u ++ v) = psNames u ++ psNames v
  | [], _ => rfl
  | q :: u, v => by simp [psNames, psNames_append u v]
theorem parts_names (q : PV) : psNames q.parts = q.names := by
  cases q with
  | d t x => exact explode_names
  | _ => simp [PV.parts, psNames, PV.names]
theorem psParts_names : ∀ ps : List PV, psNames (psParts ps) = psNames ps
  | [] => rfl
  | q :: ps => by simp [psParts, psNames, psNames_append, parts_names, psParts_names ps]
theorem svParts_names {v : SV} {ps : List PV} (h : v.parts = some ps) : psNames ps = v.names := by
  cases v with
  | one q =>
    have : q.parts = ps := by cases q <;> first | (injection h) | cases h
    rw [← this, parts_names]; rfl
  | agg qs => injection h with h; rw [← h, psParts_names]; rfl
  | tup es => cases h
  | cnd b p => cases h
theorem rdArg_frame {bor : Bool} {t : Ty} {v : SV} (h : ∀ n ∈ v.names, s'.hp n = s.hp n) : rdArg s' bor t v = rdArg s bor t v := by
  unfold rdArg
  cases hp : v.parts with
  | none => rfl
  | some ps =>
    have := resPs_frame (s := s) (s' := s') (ps := ps) (by rw [svParts_names hp]; exact h)
    cases bor with
    | true => simp only [cond_true, this]
    | false => rfl
theorem rdArgs_frame {bor : Bool} : ∀ {ts : List Ty} {vs : List SV}, (∀ v ∈ vs, ∀ n ∈ v.names, s'.hp n = s.hp n) → rdArgs s' bor ts vs = rdArgs s bor ts vs
  | [], [], _ => rfl
  | t :: ts, v :: vs, h => by
    unfold rdArgs
    rw [rdArg_frame (h v (by simp)), rdArgs_frame fun u hu => h u (by simp [hu])]
  | [], _ :: _, _ => rfl
  | _ :: _, [], _ => rfl
theorem ctrD_frame {c : Ctr} {k : Nat} {args : List SV} {d : Option Nat} {W : List Nat} {p : Option Prop} {u : St} (h : ∀ v ∈ args, ∀ n ∈ v.names, s'.hp n = s.hp n) (hu : s'.us k = s.us k) (hkW : k ∈ W)
    (hc : ctrD c k s args d = some (p, u)) : Fr s s' d W (ctrD c k s' args d) p u := by
  unfold ctrD at hc ⊢
  rw [rdArgs_frame h, rdArgs_frame h, hu]
  cases ho : c.own with
  | true =>
    rw [ho] at hc
    simp only [cond_true] at hc ⊢
    cases hg : ownOk c.rs && !(s.us k) with
    | false => rw [hg] at hc; cases hc
    | true =>
      rw [hg] at hc
      simp only [cond_true] at hc ⊢
      cases hfl : ownFl c.rs with
      | true =>
        rw [hfl] at hc
        simp only [cond_true] at hc ⊢
        split at hc
        · split at hc
          · cases hc; (try simp only [*]); exact Fr.new hkW
          · cases hc
        · cases hc
      | false =>
        rw [hfl] at hc
        simp only [cond_false] at hc ⊢
        split at hc
        · split at hc
          · split at hc
            · cases hc; (try simp only [*]); exact Fr.new hkW
            · cases hc
          · cases hc
        · cases hc
  | false =>
  rw [ho] at hc
  simp only [cond_false] at hc ⊢
  cases hn : c.rs.all noSl with
  | true =>
    rw [hn] at hc
    simp only [cond_true] at hc ⊢
    split at hc
    · cases hc; exact Fr.light
    · cases hc
  | false =>
    rw [hn] at hc
    simp only [cond_false] at hc ⊢
    split at hc
    · split at hc
      · cases hc; exact Fr.light
      · cases hc
    · cases hc
end

theorem lastF_mem : ∀ {args l : List SV} {h : Nat}, lastF args = some (h, l) → ∀ v ∈ l, v ∈ args
  | [], _, _, e => by cases e
  | [x], l, h, e => by
    unfold lastF at e
    simp only [] at e
    split at e
    · rename_i h' fs cs
      cases hb : (fs.isEmpty && cs.isEmpty) with
      | false => rw [hb] at e; cases e
      | true => rw [hb] at e; cases e; exact fun v hv => by cases hv
    · cases e
  | x :: y :: r, l, h, e => by
    unfold lastF at e
    simp only [] at e
    split at e
    · rename_i h' l' e'
      cases e
      intro v hv
      rcases List.mem_cons.1 hv with rfl | hv
      · exact List.mem_cons_self ..
      · exact List.mem_cons_of_mem _ (lastF_mem e' v hv)
    · cases e
theorem splitF_mem {X : Fx} {g : Nat} {args l : List SV} {c : Ctr} (h : splitF X g args = some (c, l)) : ∀ v ∈ l, v ∈ args := by
  unfold splitF at h
  split at h
  · rename_i h' l' e
    split at h
    · cases h; exact lastF_mem e
    · cases h
  · cases h
theorem stepD_frame {s s' u : St} {k : Nat} {o : Oper} {p : Option Prop} (hev : ∀ x ∈ opsOf o.op, ev s' x = ev s x) (hn : ∀ n ∈ opF s k o.op, s'.hp n = s.hp n ∧ s'.us n = s.us n)
    (h : stepD X f s k o = some (p, u)) : Fr s s' o.dst (opW (lzO X f o) s k o.op) (stepD X f s' k o) p u := by
  have hcal : callee1 s' o.op = callee1 s o.op := by
    cases ho : o.op with
    | call c =>
      rw [ho] at hev
      simp only [callee1]
      cases hcc : c.callee with
      | value x =>
        simp only [opsOf, hcc] at hev
        have e : c.args.toList.map (ev s') = c.args.toList.map (ev s) := List.map_congr_left fun q hq => hev q (List.mem_cons_of_mem _ hq)
        simp only [hev x (by simp), e]
      | _ => rfl
    | _ => rfl
  unfold stepD at h ⊢
  rw [hcal]
  cases hc : callee1 s o.op with
  | none =>
    rw [hc] at h
    simp only [] at h ⊢
    cases hf : (frzF X f o || poolM X f o) with
    | true => rw [hf] at h; cases h
    | false => rw [hf] at h; exact opS_frame hev hn h
  | some ga =>
    obtain ⟨g, args⟩ := ga
    rw [hc] at h
    obtain ⟨c, x, ho, hcc, hargs, _⟩ := callee1_some hc
    rw [ho] at hn ⊢
    simp only [] at h ⊢
    split at h
    · rename_i ct hct
      refine ctrD_frame (fun v hv n hnn => ?_) (hn k (by simp [opF])).2 (by simp [opW, hcc]) h
      rw [hargs] at hv
      obtain ⟨y, hy, rfl⟩ := List.mem_map.1 hv
      exact (hn n (List.mem_cons_of_mem _ (mem_namesOf (x := y) (by simp only [opsOf, hcc]; exact List.mem_cons_of_mem _ hy) hnn))).1
    · split at h
      · rename_i ct l hsp
        refine ctrD_frame (fun v hv n hnn => ?_) (hn k (by simp [opF])).2 (by simp [opW, hcc]) h
        have hv := splitF_mem hsp v hv
        rw [hargs] at hv
        obtain ⟨y, hy, rfl⟩ := List.mem_map.1 hv
        exact (hn n (List.mem_cons_of_mem _ (mem_namesOf (x := y) (by simp only [opsOf, hcc]; exact List.mem_cons_of_mem _ hy) hnn))).1
      · cases h

theorem namesOf_congr {s s' : St} : ∀ {l : List Operand}, (∀ x ∈ l, ev s' x = ev s x) → namesOf s' l = namesOf s l
  | [], _ => rfl
  | x :: l, h => by unfold namesOf; rw [h x (by simp), namesOf_congr fun y hy => h y (by simp [hy])]
theorem opF_congr {s s' : St} {k : Nat} {o : Op} (h : ∀ x ∈ opsOf o, ev s' x = ev s x) : opF s' k o = opF s k o := by
  unfold opF
  congr 1
  cases o with
  | indexAddr t x i => simp only [opN]; rw [h x (by simp [opsOf])]
  | fieldAddr t x i => rfl
  | move x => rfl
  | assign x => rfl
  | nilCheck x => rfl
  | load t x => simp only [opN]; rw [h x (by simp [opsOf])]
  | store t x y => simp only [opN]; rw [h x (by simp [opsOf]), h y (by simp [opsOf])]
  | _ => exact namesOf_congr h
theorem opW_congr {lz : Bool} {s s' : St} {k : Nat} {o : Op} (h : ∀ x ∈ opsOf o, ev s' x = ev s x) : opW lz s' k o = opW lz s k o := by
  cases o with
  | store t x y => simp only [opW]; rw [h x (by simp [opsOf])]
  | slice t x lo hi mx => simp only [opW]; rw [h x (by simp [opsOf])]
  | buildSlice t n ps => simp only [opW]; rw [namesOf_congr (fun x hx => h x (by simpa [opsOf] using hx))]
  | insert t x y z => simp only [opW]; rw [h x (by simp [opsOf])]
  | mapUpdate t x y z => simp only [opW]; rw [h x (by simp [opsOf])]
  | call c =>
    cases hc : c.callee with
    | builtin b =>
      cases b with
      | append =>
        simp only [opW, hc]
        simp only [opsOf, hc] at h
        revert h
        generalize c.args.toList = l
        intro h
        cases l with
        | nil => rfl
        | cons x l => simp only []; rw [h x (by simp)]
      | clear =>
        simp only [opW, hc]
        simp only [opsOf, hc] at h
        revert h
        generalize c.args.toList = l
        intro h
        cases l with
        | nil => rfl
        | cons x l => simp only []; rw [h x (by simp)]
      | copy =>
        simp only [opW, hc]
        simp only [opsOf, hc] at h
        revert h
        generalize c.args.toList = l
        intro h
        cases l with
        | nil => rfl
        | cons x l => simp only []; rw [h x (by simp)]
      | delete =>
        simp only [opW, hc]
        simp only [opsOf, hc] at h
        revert h
        generalize c.args.toList = l
        intro h
        cases l with
        | nil => rfl
        | cons x l => simp only []; rw [h x (by simp)]
      | _ => simp only [opW, hc]
    | _ => simp only [opW, hc]
  | _ => rfl

/-! ### Two steps that are apart may change places. -/
def gval : SV → Option (Option Bool)
  | .one (.lit b) => some (some b)
  | .one (.d .bool b) => some (some b)
  | .tup [] => some none
  | _ => none
def gput (g : Option (Nat × Bool)) (s : St) : St := match g with
  | none => s
  | some (d, b) => s.put (some d) (.one (.lit b))

theorem gd_spec {o : Oper} {s s1 : St} {b : Bool} (h : gd all o s = some (b, s1)) :
    ∃ g, s1 = gput g s ∧ (∀ dg c, g = some (dg, c) → gslot all o = some dg ∧ gval (lget s.fr dg) = some (some c)) ∧
      ∀ s', (∀ d, gslot all o = some d → gval (lget s'.fr d) = gval (lget s.fr d)) → gd all o s' = some (b, gput g s') := by
  unfold gd at h
  split at h
  · rename_i hg
    cases h
    exact ⟨none, rfl, fun _ _ h => (by cases h), fun s' _ => by simp only [gd, hg]; rfl⟩
  · rename_i j want hg
    split at h
    · rename_i d hd
      have hs : gslot all o = some d := by simp only [gslot, hg, hd]
      split at h
      · rename_i c hc
        cases h
        refine ⟨some (d, c), rfl, fun dg c' e => by cases e; exact ⟨hs, by rw [hc]; rfl⟩, fun s' ha => ?_⟩
        have := ha d hs
        rw [hc] at this
        simp only [gd, hg, hd]
        split
        · rename_i b' hb'
          rw [hb'] at this
          cases this; rfl
        · rename_i b' hb'
          rw [hb'] at this
          cases this; rfl
        · rename_i hb'
          rw [hb'] at this
          cases this
        · rename_i n1 n2 n3
          exfalso
          revert this
          cases hx : lget s'.fr d with
          | one q =>
            cases q with
            | lit z => exact absurd hx (n1 z)
            | d t z =>
              cases t with
              | bool => exact absurd hx (n2 z)
              | _ => intro h; cases h
            | _ => intro h; cases h
          | agg ps => intro h; cases h
          | tup es => cases es with
            | nil => exact absurd hx n3
            | cons _ _ => intro h; cases h
          | cnd _ _ => intro h; cases h
      · rename_i c hc
        cases h
        refine ⟨some (d, c), rfl, fun dg c' e => by cases e; exact ⟨hs, by rw [hc]; rfl⟩, fun s' ha => ?_⟩
        have := ha d hs
        rw [hc] at this
        simp only [gd, hg, hd]
        split
        · rename_i b' hb'
          rw [hb'] at this
          cases this; rfl
        · rename_i b' hb'
          rw [hb'] at this
          cases this; rfl
        · rename_i hb'
          rw [hb'] at this
          cases this
        · rename_i n1 n2 n3
          exfalso
          revert this
          cases hx : lget s'.fr d with
          | one q =>
            cases q with
            | lit z => exact absurd hx (n1 z)
            | d t z =>
              cases t with
              | bool => exact absurd hx (n2 z)
              | _ => intro h; cases h
            | _ => intro h; cases h
          | agg ps => intro h; cases h
          | tup es => cases es with
            | nil => exact absurd hx n3
            | cons _ _ => intro h; cases h
          | cnd _ _ => intro h; cases h
      · rename_i hc
        cases h
        refine ⟨none, rfl, fun _ _ h => (by cases h), fun s' ha => ?_⟩
        have := ha d hs
        rw [hc] at this
        simp only [gd, hg, hd]
        split
        · rename_i b' hb'
          rw [hb'] at this
          cases this
        · rename_i b' hb'
          rw [hb'] at this
          cases this
        · rfl
        · rename_i n1 n2 n3
          exfalso
          revert this
          cases hx : lget s'.fr d with
          | one q =>
            cases q with
            | lit z => exact absurd hx (n1 z)
            | d t z =>
              cases t with
              | bool => exact absurd hx (n2 z)
              | _ => intro h; cases h
            | _ => intro h; cases h
          | agg ps => intro h; cases h
          | tup es => cases es with
            | nil => exact absurd hx n3
            | cons _ _ => intro h; cases h
          | cnd _ _ => intro h; cases h
      · cases h
    · cases h

theorem gput_hp (g : Option (Nat × Bool)) (s : St) : (gput g s).hp = s.hp := by cases g <;> rfl
theorem gput_us (g : Option (Nat × Bool)) (s : St) : (gput g s).us = s.us := by cases g <;> rfl
theorem gput_len (g : Option (Nat × Bool)) (s : St) : (gput g s).fr.length = s.fr.length := by
  cases g with
  | none => rfl
  | some dc => exact lset_length _ _ _
theorem gput_ev {g : Option (Nat × Bool)} {s s' : St} (hl : s'.fr.length = s.fr.length) {x : Operand} (h : ev s' x = ev s x) : ev (gput g s') x = ev (gput g s) x := by
  cases g with
  | none => exact h
  | some dc =>
    cases x with
    | tmp t =>
      show lget (lset s'.fr dc.1 _) t = lget (lset s.fr dc.1 _) t
      rw [lget_lset, lget_lset, hl, show lget s'.fr t = lget s.fr t from h]
    | _ => rfl

theorem dstep_frame {i : Nat} {o : Oper} {s s' t : St} {p : Option Prop} {F W : List Nat} (hlen : s'.fr.length = s.fr.length) (hev : ∀ x ∈ opsOf o.op, ev s' x = ev s x)
    (hg : ∀ d, gslot all o = some d → gval (lget s'.fr d) = gval (lget s.fr d)) (hn : ∀ n ∈ F, s'.hp n = s.hp n ∧ s'.us n = s.us n) (h : dstep X f nb all i o s = some (p, t, F, W)) :
    ∃ g v hs un, t = ap o.dst v hs un (gput g s) ∧ dstep X f nb all i o s' = some (p, ap o.dst v hs un (gput g s'), F, W) ∧ (∀ e ∈ hs, e.1 ∈ W) ∧ (∀ n ∈ un, n ∈ W) ∧
      ∀ dg c, g = some (dg, c) → gslot all o = some dg ∧ gval (lget s.fr dg) = some (some c) := by
  unfold dstep at h ⊢
  split at h
  · rename_i s1 hgd
    obtain ⟨g, rfl, h2, h3⟩ := gd_spec hgd
    rw [h3 s' hg]
    split at h
    · rename_i pp tt hst
      cases h
      have hev' : ∀ x ∈ opsOf o.op, ev (gput g s') x = ev (gput g s) x := fun x hx => gput_ev hlen (hev x hx)
      obtain ⟨v, hs, un, e1, e2, e3, e4⟩ := stepD_frame hev' (fun n hnn => by rw [gput_hp, gput_hp, gput_us, gput_us]; exact hn n hnn) hst
      refine ⟨g, v, hs, un, e1, ?_, e3, e4, h2⟩
      simp only [e2, opF_congr hev', opW_congr hev']
    · cases h
  · rename_i s1 hgd
    obtain ⟨g, rfl, h2, h3⟩ := gd_spec hgd
    rw [h3 s' hg]
    cases h
    exact ⟨g, .tup [], [], [], rfl, rfl, by simp, by simp, h2⟩
  · cases h

theorem apH_not {hs : List (Nat × Option HE)} {n : Nat} : ∀ {hp : Nat → Option HE}, (∀ e ∈ hs, e.1 ≠ n) → apH hs hp n = hp n := by
  induction hs with
  | nil => intro _ _; rfl
  | cons e r ih =>
    intro hp h
    obtain ⟨k, v⟩ := e
    show apH r (hset hp k v) n = hp n
    rw [ih fun e he => h e (by simp [he])]
    have : k ≠ n := h (k, v) (by simp)
    simp only [hset, beq_ne (Ne.symm this), cond_false]
theorem apH_in {hs : List (Nat × Option HE)} {n : Nat} : ∀ {hp hp' : Nat → Option HE}, hp n = hp' n → apH hs hp n = apH hs hp' n := by
  induction hs with
  | nil => intro _ _ h; exact h
  | cons e r ih =>
    intro hp hp' h
    obtain ⟨k, v⟩ := e
    refine ih ?_
    simp only [hset, h]
theorem apH_key {hs : List (Nat × Option HE)} {n : Nat} : ∀ {hp hp' : Nat → Option HE}, (∃ e ∈ hs, e.1 = n) → apH hs hp n = apH hs hp' n := by
  induction hs with
  | nil => rintro _ _ ⟨_, h, _⟩; cases h
  | cons e r ih =>
    rintro hp hp' ⟨e', he', hn⟩
    obtain ⟨k, v⟩ := e
    show apH r (hset hp k v) n = apH r (hset hp' k v) n
    by_cases hk : k = n
    · refine apH_in ?_
      simp [hset, hk]
    · refine ih ⟨e', ?_, hn⟩
      rcases List.mem_cons.1 he' with rfl | h
      · exact absurd hn hk
      · exact h
theorem apU_eq {un : List Nat} {n : Nat} : ∀ {us : Nat → Bool}, apU un us n = (un.contains n || us n) := by
  induction un with
  | nil => intro _; simp [apU]
  | cons k r ih =>
    intro us
    show apU r (uset us k) n = _
    rw [ih]
    by_cases h : n = k
    · subst h; simp [uset]
    · simp [uset, h, beq_ne h]

/-- What a step leaves alone. -/
theorem step_len (d : Option Nat) (v : SV) (hs : List (Nat × Option HE)) (un : List Nat) (g : Option (Nat × Bool)) (s : St) : (ap d v hs un (gput g s)).fr.length = s.fr.length := by
  cases d with
  | none => exact gput_len g s
  | some d => exact (lset_length _ _ _).trans (gput_len g s)
theorem step_hp (d : Option Nat) (v : SV) (hs : List (Nat × Option HE)) (un : List Nat) (g : Option (Nat × Bool)) (s : St) : (ap d v hs un (gput g s)).hp = apH hs s.hp := by
  cases d <;> cases g <;> rfl
theorem step_us (d : Option Nat) (v : SV) (hs : List (Nat × Option HE)) (un : List Nat) (g : Option (Nat × Bool)) (s : St) : (ap d v hs un (gput g s)).us = apU un s.us := by
  cases d <;> cases g <;> rfl
theorem step_nx (d : Option Nat) (v : SV) (hs : List (Nat × Option HE)) (un : List Nat) (g : Option (Nat × Bool)) (s : St) : (ap d v hs un (gput g s)).nx = s.nx := by
  cases d <;> cases g <;> rfl
theorem step_bk (d : Option Nat) (v : SV) (hs : List (Nat × Option HE)) (un : List Nat) (g : Option (Nat × Bool)) (s : St) : (ap d v hs un (gput g s)).bk = s.bk := by
  cases d <;> cases g <;> rfl
theorem gput_get (g : Option (Nat × Bool)) (s : St) (i : Nat) : lget (gput g s).fr i = (match g with
    | some (dg, c) => if dg = i ∧ i < s.fr.length then .one (.lit c) else lget s.fr i
    | none => lget s.fr i) := by
  cases g with
  | none => rfl
  | some dc => exact lget_lset _ _ _ _
theorem step_get (d : Option Nat) (v : SV) (hs : List (Nat × Option HE)) (un : List Nat) (g : Option (Nat × Bool)) (s : St) (i : Nat) : lget (ap d v hs un (gput g s)).fr i =
    if d = some i ∧ i < s.fr.length then v else lget (gput g s).fr i := by
  cases d with
  | none => simp; rfl
  | some d =>
    show lget (lset (gput g s).fr d v) i = _
    rw [lget_lset, gput_len]
    simp

theorem St.ext' {s t : St} (h1 : s.fr = t.fr) (h2 : s.hp = t.hp) (h3 : s.us = t.us) (h4 : s.nx = t.nx) (h5 : s.bk = t.bk) : s = t := by
  cases s; cases t
  simp only at h1 h2 h3 h4 h5
  subst h1; subst h2; subst h3; subst h4; subst h5; rfl

theorem step_comm {d1 d2 : Option Nat} {v1 v2 : SV} {h1 h2 : List (Nat × Option HE)} {u1 u2 : List Nat} {g1 g2 : Option (Nat × Bool)} {s : St}
    (hd : ∀ i, d1 = some i → d2 ≠ some i) (hdg : ∀ i c, d1 = some i → g2 ≠ some (i, c)) (hgd : ∀ i c, d2 = some i → g1 ≠ some (i, c))
    (hgg : ∀ i c c', g1 = some (i, c) → g2 = some (i, c') → c = c') (hk : ∀ e ∈ h1, ∀ e' ∈ h2, e.1 ≠ e'.1) :
    ap d1 v1 h1 u1 (gput g1 (ap d2 v2 h2 u2 (gput g2 s))) = ap d2 v2 h2 u2 (gput g2 (ap d1 v1 h1 u1 (gput g1 s))) := by
  refine St.ext' (lget_ext ?_ fun i => ?_) ?_ ?_ ?_ ?_
  · simp only [step_len]
  · rw [step_get, step_get, step_len, step_len, gput_get, gput_get, step_len, step_len, step_get, step_get, gput_get, gput_get]
    by_cases hi : i < s.fr.length
    · simp only [hi, and_true]
      by_cases e1 : d1 = some i
      · have e2 := hd i e1
        simp only [e1, if_true, e2, if_false]
        cases hg2 : g2 with
        | none => simp
        | some dc =>
          have : dc.1 ≠ i := fun e => hdg i dc.2 e1 (by rw [hg2, ← e])
          simp [this]
      · simp only [e1, if_false]
        by_cases e2 : d2 = some i
        · simp only [e2, if_true]
          cases hg1 : g1 with
          | none => simp
          | some dc =>
            have : dc.1 ≠ i := fun e => hgd i dc.2 e2 (by rw [hg1, ← e])
            simp [this]
        · simp only [e2, if_false]
          cases hg1 : g1 with
          | none => cases hg2 : g2 <;> rfl
          | some dc =>
            cases hg2 : g2 with
            | none => rfl
            | some dc' =>
              by_cases x1 : dc.1 = i
              · by_cases x2 : dc'.1 = i
                · have := hgg i dc.2 dc'.2 (by rw [hg1, ← x1]) (by rw [hg2, ← x2])
                  simp [x1, x2, this]
                · simp [x1, x2]
              · simp [x1]
    · simp only [hi, and_false, if_false]
      cases g1 <;> cases g2 <;> rfl
  · simp only [step_hp]
    funext n
    by_cases e1 : ∃ e ∈ h1, e.1 = n
    · have e2 : ∀ e ∈ h2, e.1 ≠ n := fun e' he' hn => by
        obtain ⟨e, he, hen⟩ := e1
        exact hk e he e' he' (hen.trans hn.symm)
      rw [apH_not (hs := h2) e2]
      exact apH_key e1
    · have e1' : ∀ e ∈ h1, e.1 ≠ n := fun e he hn => e1 ⟨e, he, hn⟩
      rw [apH_not (hs := h1) e1']
      exact apH_in (by rw [apH_not e1'])
  · simp only [step_us]
    funext n
    simp only [apU_eq]
    cases u1.contains n <;> cases u2.contains n <;> rfl
  · simp only [step_nx]
  · simp only [step_bk]

theorem noread_ev {d : Nat} {l : List Operand} (h : readsT d l = false) : ∀ x ∈ l, x ≠ .tmp d := by
  induction l with
  | nil => simp
  | cons y r ih =>
    intro x hx
    cases y with
    | tmp t =>
      unfold readsT at h
      cases hb : Nat.beq d t with
      | true => rw [hb] at h; cases h
      | false =>
        rw [hb] at h
        rcases List.mem_cons.1 hx with rfl | hx
        · intro e; cases e; exact Nat.ne_of_beq_eq_false hb rfl
        · exact ih h x hx
    | _ =>
      unfold readsT at h
      rcases List.mem_cons.1 hx with rfl | hx
      · simp
      · exact ih h x hx
theorem noread_spec {d : Option Nat} {l : List Operand} (h : noread d l = true) : ∀ i, d = some i → ∀ x ∈ l, x ≠ .tmp i := by
  rintro i rfl
  exact noread_ev (by simpa [noread] using h)
theorem neO_spec {x y : Option Nat} (h : neO x y = true) : ∀ i, x = some i → y ≠ some i := by
  rintro i rfl hy
  subst hy
  simp [neO] at h

/-- A step leaves alone what is apart from it. -/
theorem step_ev {d : Option Nat} {v : SV} {hs : List (Nat × Option HE)} {un : List Nat} {g : Option (Nat × Bool)} {s : St} {x : Operand} (h1 : ∀ i, d = some i → x ≠ .tmp i)
    (h2 : ∀ i c, g = some (i, c) → x ≠ .tmp i) : ev (ap d v hs un (gput g s)) x = ev s x := by
  cases x with
  | tmp t =>
    show lget (ap d v hs un (gput g s)).fr t = lget s.fr t
    rw [step_get, gput_get]
    have e1 : d ≠ some t := fun e => h1 t e rfl
    simp only [e1, false_and, if_false]
    cases hg : g with
    | none => rfl
    | some dc =>
      have e2 : dc.1 ≠ t := fun e => h2 t dc.2 (by rw [hg, ← e]) rfl
      simp [e2]
  | _ => rfl
theorem step_gval {d : Option Nat} {v : SV} {hs : List (Nat × Option HE)} {un : List Nat} {g : Option (Nat × Bool)} {s : St} {j : Nat} (h1 : d ≠ some j)
    (h2 : ∀ c, g = some (j, c) → gval (lget s.fr j) = some (some c)) : gval (lget (ap d v hs un (gput g s)).fr j) = gval (lget s.fr j) := by
  rw [step_get, gput_get]
  simp only [h1, false_and, if_false]
  cases hg : g with
  | none => rfl
  | some dc =>
    by_cases e : dc.1 = j
    · have := h2 dc.2 (by rw [hg, ← e])
      by_cases hj : j < s.fr.length
      · simp only [e, hj, and_self, if_true, this]; rfl
      · simp [hj]
    · simp [e]

theorem swap {i j : Nat} {y x : Oper} {r : List (Nat × Oper)} {acc : List Rec} {s : St} {K : St → Prop} (hap : sapart all y x = true) (hord : ord ms j i = false) (hord' : ord ms i j = false)
    (h : drunR X f nb all ms ((i, y) :: (j, x) :: r) acc s K) : drunR X f nb all ms ((j, x) :: (i, y) :: r) acc s K := by
  simp only [sapart, Bool.and_eq_true] at hap
  obtain ⟨a1, a2, a3, a4, a5, a6, a7⟩ := hap
  have a1 := noread_spec a1
  have a2 := noread_spec a2
  have a3 := noread_spec a3
  have a4 := noread_spec a4
  have a5 := neO_spec a5
  have a6 := neO_spec a6
  have a7 := neO_spec a7
  obtain ⟨p1, t1, F1, W1, hy, hc1, hp1, p2, t2, F2, W2, hx, hc2, hp2, hr⟩ := h
  have hcc := chk_iff.1 hc2
  have hdj := hcc (i, F1, W1) (by simp)
  simp only [hord, Bool.false_or, Bool.and_eq_true] at hdj
  obtain ⟨b1, b2, b3⟩ := hdj
  obtain ⟨g0, v0, h0, u0, et0, _, k0, l0, m0⟩ := dstep_frame (s' := s) rfl (fun _ _ => rfl) (fun _ _ => rfl) (fun _ _ => ⟨rfl, rfl⟩) hy
  -- x at s
  have hx0 := dstep_frame (s := t1) (s' := s) (by rw [et0, step_len])
    (fun z hz => by rw [et0]; exact (step_ev (fun d hd => a1 d hd z hz) (fun d c hd => a3 d (m0 d c hd).1 z hz)).symm)
    (fun d hd => by rw [et0]; exact (step_gval (fun e => a6 d e hd) (fun c hc => (m0 d c hc).2)).symm)
    (fun n hn => by
      rw [et0, step_hp, step_us, apU_eq]
      have hnW : n ∉ W1 := disj_iff.1 (disj_symm b1) n hn
      refine ⟨(apH_not (hs := h0) (fun e he hen => hnW (by rw [← hen]; exact k0 e he))).symm, ?_⟩
      have : u0.contains n = false := by
        cases hb : u0.contains n with
        | false => rfl
        | true => exact absurd (l0 n (by simpa using hb)) hnW
      rw [this, Bool.false_or]) hx
  obtain ⟨g2, v2, h2, u2, et2, hxs, k2, l2, m2⟩ := hx0
  -- y at what x made of s
  have hy0 := dstep_frame (s := s) (s' := ap x.dst v2 h2 u2 (gput g2 s)) (by rw [step_len])
    (fun z hz => step_ev (fun d hd => a2 d hd z hz) (fun d c hd => a4 d (m2 d c hd).1 z hz))
    (fun d hd => step_gval (fun e => a7 d e hd) (fun c hc => by
      have := (m2 d c hc).2
      rw [et0] at this
      rwa [step_gval (fun e => by
        have hsl := (m2 d c hc).1
        exact a6 d e hsl) (fun c' hc' => (m0 d c' hc').2)] at this))
    (fun n hn => by
      rw [step_hp, step_us, apU_eq]
      have hnW : n ∉ W2 := disj_iff.1 (disj_symm b2) n hn
      refine ⟨apH_not (hs := h2) (fun e he hen => hnW (by rw [← hen]; exact k2 e he)), ?_⟩
      have : u2.contains n = false := by
        cases hb : u2.contains n with
        | false => rfl
        | true => exact absurd (l2 n (by simpa using hb)) hnW
      rw [this, Bool.false_or]) hy
  obtain ⟨g1, v1, h1, u1, et1, hyu, k1, l1, m1⟩ := hy0
  have hcom : ap y.dst v1 h1 u1 (gput g1 (ap x.dst v2 h2 u2 (gput g2 s))) = t2 := by
    rw [et2, et1]
    refine step_comm (fun n e1 e2 => a5 n e1 e2) (fun n c e1 e2 => a6 n e1 (m2 n c e2).1) (fun n c e1 e2 => a7 n e1 (m1 n c e2).1) (fun n c c' e1 e2 => ?_) (fun e he e' he' hee => ?_)
    · have q1 := (m1 n c e1).2
      have q2 := (m2 n c' e2).2
      rw [et0, step_gval (fun e => a6 n e (m2 n c' e2).1) (fun c' hc' => (m0 n c' hc').2), q1] at q2
      cases q2; rfl
    · exact disj_iff.1 b3 _ (k2 e' he') (by rw [← hee]; exact k1 e he)
  refine ⟨p2, _, F2, W2, hxs, chk_iff.2 fun e he => hcc e (by simp [he]), hp2, p1, _, F1, W1, hyu, chk_iff.2 fun e he => ?_, hp1, ?_⟩
  · rcases List.mem_cons.1 he with rfl | he
    · simp only [hord', Bool.false_or, b2, disj_symm b3, Bool.and_true, Bool.true_and]
      exact b1
    · exact chk_iff.1 hc1 e he
  · rw [hcom]
    refine drunR_acc (fun e => ?_) hr
    simp only [List.mem_cons]
    constructor
    · rintro (h | h | h)
      · exact .inr (.inl h)
      · exact .inl h
      · exact .inr (.inr h)
    · rintro (h | h | h)
      · exact .inr (.inl h)
      · exact .inl h
      · exact .inr (.inr h)

theorem bubble {j : Nat} {x : Oper} {l2 : List (Nat × Oper)} {K : St → Prop} : ∀ {l1 : List (Nat × Oper)} {acc : List Rec} {s : St},
    (∀ e ∈ l1, sapart all e.2 x = true ∧ ord ms j e.1 = false ∧ ord ms e.1 j = false) → drunR X f nb all ms (l1 ++ (j, x) :: l2) acc s K → drunR X f nb all ms ((j, x) :: (l1 ++ l2)) acc s K
  | [], _, _, _, h => h
  | (i, y) :: l1, acc, s, ha, h => by
    have h' := ha (i, y) (by simp)
    exact swap h'.1 h'.2.1 h'.2.2 (drunR_mono (fun acc s hh => bubble (fun e he => ha e (by simp [he])) hh) h)
end
end Go.Sx
