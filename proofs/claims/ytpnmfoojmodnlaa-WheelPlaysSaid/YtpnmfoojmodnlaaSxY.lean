/-
  Sx, part Y: what the executor is given, out of lists.
-/
import Derived.Test.YtpnmfoojmodnlaaSxW
import Derived.Test.YtpnmfoojmodnlaaSxRA
namespace Go.Sx

def ctrAt : List (Nat × Ctr) → Nat → Option Ctr
  | [], _ => none
  | (k, c) :: r, n => bif Nat.beq n k then some c else ctrAt r n
def annAt : List (Nat × Nat × Ann) → Nat → Nat → Option Ann
  | [], _, _ => none
  | (k, i, a) :: r, n, j => bif Nat.beq n k && Nat.beq j i then some a else annAt r n j
def annsAt : List (Nat × Nat × Ann) → Nat → Nat → List Ann
  | [], _, _ => []
  | (k, i, a) :: r, n, j => bif Nat.beq n k && Nat.beq j i then a :: annsAt r n j else annsAt r n j
/-- Where arithmetic may go round: a slot of a function; 1000000: all of them; 2000000 + a region that draws its order: slices of our own become data ahead of it; the slot of a slicing: likewise. -/
def wrAt : List (Nat × Nat) → Nat → Nat → Bool
  | [], _, _ => false
  | (k, i) :: r, n, j => bif Nat.beq n k && (Nat.beq j i || (Nat.beq i 1000000 && Nat.blt j 1000000)) then true else wrAt r n j
def ctrFAt : List (Nat × Nat × Ctr) → Nat → Nat → Option Ctr
  | [], _, _ => none
  | (k, i, c) :: r, n, j => bif Nat.beq n k && Nat.beq j i then some c else ctrFAt r n j
def mkFxF (P : Program) (E : Env) (ks : List (Nat × Ctr)) (kf : List (Nat × Nat × Ctr)) (ls cs : List (Nat × Nat × Ann)) (wr : List (Nat × Nat)) : Fx where
  E := E
  wr := wrAt wr
  K := ctrAt ks
  KF := ctrFAt kf
  fn := fun g => P.funcs[g]?
  loops := annAt ls
  cuts := annsAt cs
  PR := fun _ => none
def mkFx (P : Program) (E : Env) (ks : List (Nat × Ctr)) (ls cs : List (Nat × Nat × Ann)) (wr : List (Nat × Nat)) : Fx where
  E := E
  wr := wrAt wr
  K := ctrAt ks
  KF := fun _ _ => none
  fn := fun g => P.funcs[g]?
  loops := annAt ls
  cuts := annsAt cs
  PR := fun _ => none
def ctrCAt : List (Nat × Nat × List Nat × Ctr) → Nat → Nat → List Nat → Option Ctr
  | [], _, _, _ => none
  | (k, i, fs, c) :: r, n, j, gs => bif Nat.beq n k && Nat.beq j i && decide (gs = fs) then some c else ctrCAt r n j gs
def CtrsOk (P : Program) : List (Nat × Ctr) → Prop
  | [] => True
  | p :: r => CtrOk P p.1 p.2 ∧ CtrsOk P r
theorem ctrAt_ok {P : Program} : ∀ {ks : List (Nat × Ctr)} {g : Nat} {c : Ctr}, CtrsOk P ks → ctrAt ks g = some c → CtrOk P g c
  | [], _, _, _, h => by cases h
  | (k, c') :: r, g, c, hk, h => by
    unfold ctrAt at h
    cases e : Nat.beq g k with
    | true =>
      rw [e] at h
      have e1 := Nat.eq_of_beq_eq_true e
      injection h with h
      subst e1; subst h
      exact hk.1
    | false => rw [e] at h; exact ctrAt_ok hk.2 h
theorem ctrsOk_append {P : Program} : ∀ {a b : List (Nat × Ctr)}, CtrsOk P a → CtrsOk P b → CtrsOk P (a ++ b)
  | [], _, _, h => h
  | _ :: _, _, h, h' => ⟨h.1, ctrsOk_append h.2 h'⟩
def CtrsOkF (P : Program) : List (Nat × Nat × Ctr) → Prop
  | [] => True
  | p :: r => CtrOkF P p.1 p.2.1 p.2.2 ∧ CtrsOkF P r
theorem ctrFAt_ok {P : Program} : ∀ {ks : List (Nat × Nat × Ctr)} {g h : Nat} {c : Ctr}, CtrsOkF P ks → ctrFAt ks g h = some c → CtrOkF P g h c
  | [], _, _, _, _, h => by cases h
  | (k, i, c') :: r, g, j, c, hk, h => by
    unfold ctrFAt at h
    cases e : (Nat.beq g k && Nat.beq j i) with
    | true =>
      rw [e] at h
      simp only [Bool.and_eq_true] at e
      have e1 := Nat.eq_of_beq_eq_true e.1
      have e2 := Nat.eq_of_beq_eq_true e.2
      injection h with h
      subst e1; subst e2; subst h
      exact hk.1
    | false => rw [e] at h; exact ctrFAt_ok hk.2 h
def namesOk (P : Program) : Bool := P.funcs.toList.all fun f => !(f.name == "runtime.NumGoroutine")
theorem mkFx_all {P : Program} {E : Env} {ks : List (Nat × Ctr)} {ls cs : List (Nat × Nat × Ann)} {wr : List (Nat × Nat)} (hE : EnvOk P E) (hm : P.follows .mixedOrders = true) (hn : namesOk P = true) (hk : CtrsOk P ks) :
    FxAll P (mkFx P E ks ls cs wr) where
  ok := ⟨hE, hm⟩
  ctr := fun _ _ h => ctrAt_ok hk h
  ctrF := fun _ _ _ h => by cases h
  ctrN := fun _ _ h => by cases h
  ctrC := fun _ _ _ _ h => by cases h
  prc := fun _ _ h => by cases h
  po := fun _ _ h => by cases h
  fn := fun g fn h => by
    refine ⟨h, ?_⟩
    have hm : fn ∈ P.funcs.toList := by
      have h1 : P.funcs[g]? = some fn := h
      obtain ⟨hlt, e⟩ := Array.getElem?_eq_some_iff.1 h1
      rw [← e]; simp
    have := List.all_eq_true.1 hn fn hm
    simpa using this
theorem mkFxF_all {P : Program} {E : Env} {ks : List (Nat × Ctr)} {kf : List (Nat × Nat × Ctr)} {ls cs : List (Nat × Nat × Ann)} {wr : List (Nat × Nat)} (hE : EnvOk P E) (hm : P.follows .mixedOrders = true) (hn : namesOk P = true) (hk : CtrsOk P ks) (hkf : CtrsOkF P kf) :
    FxAll P (mkFxF P E ks kf ls cs wr) where
  ok := ⟨hE, hm⟩
  ctr := fun _ _ h => ctrAt_ok hk h
  ctrF := fun _ _ _ h => ctrFAt_ok hkf h
  ctrN := fun _ _ h => by cases h
  ctrC := fun _ _ _ _ h => by cases h
  prc := fun _ _ h => by cases h
  po := fun _ _ h => by cases h
  fn := fun g fn h => (mkFx_all (ls := ls) (cs := cs) (wr := wr) hE hm hn hk).fn g fn h
/-! ### And contracts of functions that change memory of ours. -/
def prcAt : List (Nat × Prc) → Nat → Option Prc
  | [], _ => none
  | (k, c) :: r, n => bif Nat.beq n k then some c else prcAt r n
def PrcsOk (P : Program) : List (Nat × Prc) → Prop
  | [] => True
  | p :: r => PrcOk P p.1 p.2 ∧ PrcsOk P r
theorem prcAt_ok {P : Program} : ∀ {ks : List (Nat × Prc)} {g : Nat} {c : Prc}, PrcsOk P ks → prcAt ks g = some c → PrcOk P g c
  | [], _, _, _, h => by cases h
  | (k, c') :: r, g, c, hk, h => by
    unfold prcAt at h
    cases e : Nat.beq g k with
    | true =>
      rw [e] at h
      have e1 := Nat.eq_of_beq_eq_true e
      injection h with h
      subst e1; subst h
      exact hk.1
    | false => rw [e] at h; exact prcAt_ok hk.2 h
def mkFxG (P : Program) (E : Env) (ks : List (Nat × Ctr)) (kf : List (Nat × Nat × Ctr)) (ps : List (Nat × Prc)) (ls cs : List (Nat × Nat × Ann)) (wr : List (Nat × Nat)) : Fx where
  E := E
  wr := wrAt wr
  K := ctrAt ks
  KF := ctrFAt kf
  fn := fun g => P.funcs[g]?
  loops := annAt ls
  cuts := annsAt cs
  PR := prcAt ps
theorem mkFxG_all {P : Program} {E : Env} {ks : List (Nat × Ctr)} {kf : List (Nat × Nat × Ctr)} {ps : List (Nat × Prc)} {ls cs : List (Nat × Nat × Ann)} {wr : List (Nat × Nat)} (hE : EnvOk P E) (hm : P.follows .mixedOrders = true) (hn : namesOk P = true) (hk : CtrsOk P ks) (hkf : CtrsOkF P kf)
    (hp : PrcsOk P ps) : FxAll P (mkFxG P E ks kf ps ls cs wr) where
  ok := ⟨hE, hm⟩
  ctr := fun _ _ h => ctrAt_ok hk h
  ctrF := fun _ _ _ h => ctrFAt_ok hkf h
  ctrN := fun _ _ h => by cases h
  ctrC := fun _ _ _ _ h => by cases h
  prc := fun _ _ h => prcAt_ok hp h
  po := fun _ _ h => by cases h
  fn := fun g fn h => (mkFx_all (ls := ls) (cs := cs) (wr := wr) hE hm hn hk).fn g fn h
/-! ### And contracts of functions that are given nil, or a closure over a box. -/
def CtrsOkN (P : Program) : List (Nat × Ctr) → Prop
  | [] => True
  | p :: r => CtrOkN P p.1 p.2 ∧ CtrsOkN P r
theorem ctrNAt_ok {P : Program} : ∀ {ks : List (Nat × Ctr)} {g : Nat} {c : Ctr}, CtrsOkN P ks → ctrAt ks g = some c → CtrOkN P g c
  | [], _, _, _, h => by cases h
  | (k, c') :: r, g, c, hk, h => by
    unfold ctrAt at h
    cases e : Nat.beq g k with
    | true =>
      rw [e] at h
      have e1 := Nat.eq_of_beq_eq_true e
      injection h with h
      subst e1; subst h
      exact hk.1
    | false => rw [e] at h; exact ctrNAt_ok hk.2 h
def CtrsOkC (P : Program) : List (Nat × Nat × List Nat × Ctr) → Prop
  | [] => True
  | p :: r => CtrOkC P p.1 p.2.1 p.2.2.1 p.2.2.2 ∧ CtrsOkC P r
theorem ctrCAt_ok {P : Program} : ∀ {ks : List (Nat × Nat × List Nat × Ctr)} {g h : Nat} {fs : List Nat} {c : Ctr}, CtrsOkC P ks → ctrCAt ks g h fs = some c → CtrOkC P g h fs c
  | [], _, _, _, _, _, h => by cases h
  | (k, i, l, c') :: r, g, j, fs, c, hk, h => by
    unfold ctrCAt at h
    cases e : (Nat.beq g k && Nat.beq j i && decide (fs = l)) with
    | true =>
      rw [e] at h
      simp only [Bool.and_eq_true, decide_eq_true_eq] at e
      have e1 := Nat.eq_of_beq_eq_true e.1.1
      have e2 := Nat.eq_of_beq_eq_true e.1.2
      have e3 := e.2
      injection h with h
      subst e1; subst e2; subst e3; subst h
      exact hk.1
    | false => rw [e] at h; exact ctrCAt_ok hk.2 h
def mkFxX (P : Program) (E : Env) (ks : List (Nat × Ctr)) (kf : List (Nat × Nat × Ctr)) (ps : List (Nat × Prc)) (kn : List (Nat × Ctr)) (kc : List (Nat × Nat × List Nat × Ctr)) (ls cs : List (Nat × Nat × Ann)) (wr : List (Nat × Nat)) : Fx where
  E := E
  wr := wrAt wr
  K := ctrAt ks
  KF := ctrFAt kf
  fn := fun g => P.funcs[g]?
  loops := annAt ls
  cuts := annsAt cs
  PR := prcAt ps
  KN := ctrAt kn
  KC := ctrCAt kc
theorem mkFxX_all {P : Program} {E : Env} {ks : List (Nat × Ctr)} {kf : List (Nat × Nat × Ctr)} {ps : List (Nat × Prc)} {kn : List (Nat × Ctr)} {kc : List (Nat × Nat × List Nat × Ctr)} {ls cs : List (Nat × Nat × Ann)} {wr : List (Nat × Nat)} (hE : EnvOk P E) (hm : P.follows .mixedOrders = true) (hn : namesOk P = true) (hk : CtrsOk P ks) (hkf : CtrsOkF P kf)
    (hp : PrcsOk P ps) (hkn : CtrsOkN P kn) (hkc : CtrsOkC P kc) : FxAll P (mkFxX P E ks kf ps kn kc ls cs wr) where
  ok := ⟨hE, hm⟩
  ctr := fun _ _ h => ctrAt_ok hk h
  ctrF := fun _ _ _ h => ctrFAt_ok hkf h
  ctrN := fun _ _ h => ctrNAt_ok hkn h
  ctrC := fun _ _ _ _ h => ctrCAt_ok hkc h
  prc := fun _ _ h => prcAt_ok hp h
  po := fun _ _ h => by cases h
  fn := fun g fn h => (mkFx_all (ls := ls) (cs := cs) (wr := wr) hE hm hn hk).fn g fn h
/-! ### And contracts of functions that hand a slice of ours back. -/
def poAt : List (Nat × Prc × Nat) → Nat → Option (Prc × Nat)
  | [], _ => none
  | (k, c) :: r, n => bif Nat.beq n k then some c else poAt r n
def PosOk (P : Program) : List (Nat × Prc × Nat) → Prop
  | [] => True
  | p :: r => PrcOkO P p.1 p.2.1 p.2.2 ∧ PosOk P r
theorem poAt_ok {P : Program} : ∀ {ks : List (Nat × Prc × Nat)} {g : Nat} {c : Prc × Nat}, PosOk P ks → poAt ks g = some c → PrcOkO P g c.1 c.2
  | [], _, _, _, h => by cases h
  | (k, c') :: r, g, c, hk, h => by
    unfold poAt at h
    cases e : Nat.beq g k with
    | true =>
      rw [e] at h
      have e1 := Nat.eq_of_beq_eq_true e
      injection h with h
      subst e1; subst h
      exact hk.1
    | false => rw [e] at h; exact poAt_ok hk.2 h
def mkFxO (P : Program) (E : Env) (ks : List (Nat × Ctr)) (kf : List (Nat × Nat × Ctr)) (ps : List (Nat × Prc)) (po : List (Nat × Prc × Nat)) (kn : List (Nat × Ctr)) (kc : List (Nat × Nat × List Nat × Ctr)) (ls cs : List (Nat × Nat × Ann)) (wr : List (Nat × Nat)) : Fx :=
  { mkFxX P E ks kf ps kn kc ls cs wr with PO := poAt po }
theorem mkFxO_all {P : Program} {E : Env} {ks : List (Nat × Ctr)} {kf : List (Nat × Nat × Ctr)} {ps : List (Nat × Prc)} {po : List (Nat × Prc × Nat)} {kn : List (Nat × Ctr)} {kc : List (Nat × Nat × List Nat × Ctr)} {ls cs : List (Nat × Nat × Ann)} {wr : List (Nat × Nat)} (hE : EnvOk P E) (hm : P.follows .mixedOrders = true) (hn : namesOk P = true) (hk : CtrsOk P ks) (hkf : CtrsOkF P kf)
    (hp : PrcsOk P ps) (hpo : PosOk P po) (hkn : CtrsOkN P kn) (hkc : CtrsOkC P kc) : FxAll P (mkFxO P E ks kf ps po kn kc ls cs wr) where
  ok := ⟨hE, hm⟩
  ctr := fun _ _ h => ctrAt_ok hk h
  ctrF := fun _ _ _ h => ctrFAt_ok hkf h
  ctrN := fun _ _ h => ctrNAt_ok hkn h
  ctrC := fun _ _ _ _ h => ctrCAt_ok hkc h
  prc := fun _ _ h => prcAt_ok hp h
  po := fun _ _ h => poAt_ok hpo h
  fn := fun g fn h => (mkFx_all (ls := ls) (cs := cs) (wr := wr) hE hm hn hk).fn g fn h
/-- A contract told by variables: the arguments' places are those of the frame s0. -/
def canon (fr : List SV) (hp : List (Nat × HE)) (nx : Nat) : St := { fr := fr, hp := assoc hp, us := fun n => (assoc hp n).isSome, nx := nx, bk := [] }
def Prc.by (n : Nat) (s0 : St) (vs : List LV) (pre : lvG vs → Prop) (rs : List Ty) (f : lvG vs → lvG vs × HL rs) : Prc where
  n := n
  G := lvG vs
  inv := fun g => match lvMk s0 vs s0.nx g with
    | ⟨sl, h, td, m⟩ => { slots := sl, heap := addN s0 1000 td h, nx := m }
  pick := fun s => lvRd s vs
  lens := lvLens vs
  told := fun _ _ _ _ _ _ h hr => lvRd_c h hr
  pre := pre
  rs := rs
  f := f
end Go.Sx
