/-
  RingSteps: what each function computes (its contract), and what its loops keep.
-/
import Derived.Test.YtollphjlheabdaaEnv
import Derived.Test.YtollphjlheabdaaSxZA
namespace Go.Proofs.Ytollphjlheabdaa.Ring
open Go.Sx
set_option maxRecDepth 100000
set_option linter.unusedVariables false

abbrev CE := Bool × Int
abbrev RI := List CE × Int × Int × Int
/- A ring: cells, Give, Take, Work. -/
def ce (l : List CE) (i : Int) : CE := l.getD i.toNat (false, 0)
/-- How far ahead. -/
def ah (n t k : Int) : Int := if t ≤ k then k - t else k - t + n
def okC (r : RI) (k : Int) : Prop :=
  ((ce r.1 k).1 = true ↔ (ah r.1.length r.2.2.1 r.2.2.2 ≤ ah r.1.length r.2.2.1 k ∧ ah r.1.length r.2.2.1 k < ah r.1.length r.2.2.1 r.2.1)) ∧
  (ah r.1.length r.2.2.1 r.2.1 ≤ ah r.1.length r.2.2.1 k → (ce r.1 k).2 = 0)
def inB (r : RI) : Prop := 2 ≤ (r.1.length : Int) ∧ (r.1.length : Int) ≤ 64 ∧ 0 ≤ r.2.1 ∧ r.2.1 < r.1.length ∧ 0 ≤ r.2.2.1 ∧ r.2.2.1 < r.1.length ∧ 0 ≤ r.2.2.2 ∧ r.2.2.2 < r.1.length
def Right (r : RI) : Prop := inB r ∧ ah r.1.length r.2.2.1 r.2.2.2 ≤ ah r.1.length r.2.2.1 r.2.1 ∧ ∀ k : Int, 0 ≤ k → k < r.1.length → okC r k
open Classical in
noncomputable def right (r : RI) : Bool := decide (Right r)
noncomputable def parts (r : RI) : Int × Int × Bool × Unit :=
  if right r then (ah r.1.length r.2.2.1 r.2.2.2, ah r.1.length r.2.2.1 r.2.1 - ah r.1.length r.2.2.1 r.2.2.2, true, ()) else (0, 0, false, ())
def bad (e : Int) : RI × Int × Int × Unit := (([], 0, 0, 0), 0, e, ())
noncomputable def step (r : RI) (k d : Int) : RI × Int × Int × Unit :=
  if right r then
    (if k = 1 then (if ah r.1.length r.2.2.1 r.2.1 = r.1.length - 1 then bad 7 else ((r.1.set r.2.1.toNat (true, d), (if r.2.1 + 1 = r.1.length then 0 else r.2.1 + 1), r.2.2.1, r.2.2.2), 0, 0, ()))
     else if k = 2 then (if r.2.2.2 = r.2.1 then bad 3 else ((r.1.set r.2.2.2.toNat (false, -1 - (ce r.1 r.2.2.2).2), r.2.1, r.2.2.1, (if r.2.2.2 + 1 = r.1.length then 0 else r.2.2.2 + 1)), 0, 0, ()))
     else if k = 3 then (if r.2.2.1 = r.2.2.2 then bad 3 else ((r.1.set r.2.2.1.toNat (false, 0), r.2.1, (if r.2.2.1 + 1 = r.1.length then 0 else r.2.2.1 + 1), r.2.2.2), (ce r.1 r.2.2.1).2, 0, ()))
     else bad 5)
  else bad 1
def new (n : Int) : RI × Int × Unit := if n < 2 ∨ 64 < n then (([], 0, 0, 0), 2, ()) else ((List.replicate n.toNat (false, 0), 0, 0, 0), 0, ())
@[reducible] def cClone : Ctr := ⟨[.sl tyCell], [.sl tyCell], fun x => x.1.length * 16 ≤ 140737488355328, fun x => (x.1, ()), true⟩
@[reducible] def cAhead : Ctr := ⟨[tyRing, I64, I64], [I64], fun x => 0 ≤ x.2.1 ∧ x.2.1 < x.1.1.length ∧ 0 ≤ x.2.2.1 ∧ x.2.2.1 < x.1.1.length ∧ (x.1.1.length : Int) ≤ 64, fun x => (ah x.1.1.length x.2.1 x.2.2.1, ()), false⟩
@[reducible] noncomputable def cRight : Ctr := ⟨[tyRing], [.bool], fun _ => True, fun x => (right x.1, ()), false⟩
@[reducible] noncomputable def cParts : Ctr := ⟨[tyRing], [I64, I64, .bool], fun _ => True, fun x => parts x.1, false⟩
@[reducible] noncomputable def cStep : Ctr := ⟨[tyRing, tyRingOp], [tyRing, I64, I64], fun _ => True, fun x => step x.1 x.2.1.1 x.2.1.2, false⟩
@[reducible] noncomputable def cRStep : Ctr := ⟨[tyRing, tyRingOp], [tyRing, I64, I64], fun x => x.1.1.length * 16 ≤ 140737488355328, fun x => step x.1 x.2.1.1 x.2.1.2, false⟩
@[reducible] def cNew : Ctr := ⟨[I64], [tyRing, I64], fun _ => True, fun x => new x.1, false⟩
@[reducible] def cNone : Ctr := ⟨[I64, .sl tyRingOp], [.sl I64, .sl I64, tyRing, I64], fun x => x.2.1 = [], fun x => ([], [], (new x.1).1, (new x.1).2.1, ()), false⟩
@[reducible] def cSame : Ctr := ⟨[tyRing, tyRing], [.bool], fun _ => True, fun x => (decide (x.1 = x.2.1), ()), false⟩
@[reducible] def cLaw : Ctr := ⟨[tyRing, tyRingOp, I64], [.bool], fun x => x.1.1.length * 16 ≤ 140737488355328, fun _ => (true, ()), false⟩
/-- The place so far ahead of Take. -/
def pl (r : RI) (j : Int) : Int := if r.2.2.1 + j < r.1.length then r.2.2.1 + j else r.2.2.1 + j - r.1.length
def devs (r : RI) (a b : Int) (v : Bool) : Prop := ∀ j : Int, a ≤ j → j < b → (ce r.1 (pl r j)).1 = v
def free (r : RI) (a b : Int) : Prop := ∀ j : Int, a ≤ j → j < b → ce r.1 (pl r j) = (false, 0)


noncomputable def ks0 : List (Nat × Ctr) := []
noncomputable def fx_clone (x : HL (cClone : Ctr).as) : Fx := mkFx Try.prog env ks0 ([]) ([]) []
noncomputable def ks1 : List (Nat × Ctr) := (78, cClone) :: ks0
noncomputable def fx_ahead (x : HL (cAhead : Ctr).as) : Fx := mkFx Try.prog env ks1 ([]) ([]) []
noncomputable def ks2 : List (Nat × Ctr) := (79, cAhead) :: ks1
noncomputable def fx_right (x : HL (cRight : Ctr).as) : Fx := mkFx Try.prog env ks2 ((fun (x : HL (cRight : Ctr).as) => ([(54, 5, Ann.by [.keep 1, .keep 54, .keep 55, .one 56 (.d I64)] (fun s g => 0 ≤ g.1 ∧ g.1 ≤ x.1.1.length ∧ ∀ i : Int, 0 ≤ i → i < g.1 → okC x.1 i) (fun s g => (x.1.1.length - g.1).toNat))])) x) ([]) []
noncomputable def ks3 : List (Nat × Ctr) := (54, cRight) :: ks2
noncomputable def fx_parts (x : HL (cParts : Ctr).as) : Fx := mkFx Try.prog env ks3 ((fun (x : HL (cParts : Ctr).as) => ([(51, 5, Ann.by [.keep 1, .keep 5, .one 6 (.d I64), .one 7 (.d I64)] (fun s g => 0 ≤ g.1 ∧ g.1 < x.1.1.length ∧ g.2.1 = pl x.1 g.1 ∧ g.1 ≤ ah x.1.1.length x.1.2.2.1 x.1.2.2.2 ∧ g.1 ≤ ah x.1.1.length x.1.2.2.1 x.1.2.1 ∧ devs x.1 0 g.1 false) (fun s g => (x.1.1.length - g.1).toNat)),
  (51, 12, Ann.by [.keep 1, .keep 5, .keep 6, .one 7 (.d I64), .one 8 (.d I64)] (fun s g => 0 ≤ g.2.1 ∧ g.1 = pl x.1 (ah x.1.1.length x.1.2.2.1 x.1.2.2.2 + g.2.1) ∧ ah x.1.1.length x.1.2.2.1 x.1.2.2.2 + g.2.1 ≤ ah x.1.1.length x.1.2.2.1 x.1.2.1 ∧ devs x.1 (ah x.1.1.length x.1.2.2.1 x.1.2.2.2) (ah x.1.1.length x.1.2.2.1 x.1.2.2.2 + g.2.1) true) (fun s g => (x.1.1.length - g.2.1).toNat)),
  (51, 19, Ann.by [.keep 1, .keep 5, .keep 6, .one 7 (.d I64), .keep 8, .keep 115, .one 116 (.d I64)] (fun s g => 0 ≤ g.2.1 ∧ ah x.1.1.length x.1.2.2.1 x.1.2.1 + g.2.1 ≤ x.1.1.length ∧ (ah x.1.1.length x.1.2.2.1 x.1.2.1 + g.2.1 < x.1.1.length → g.1 = pl x.1 (ah x.1.1.length x.1.2.2.1 x.1.2.1 + g.2.1)) ∧ 0 ≤ g.1 ∧ g.1 < x.1.1.length ∧ free x.1 (ah x.1.1.length x.1.2.2.1 x.1.2.1) (ah x.1.1.length x.1.2.2.1 x.1.2.1 + g.2.1)) (fun s g => (x.1.1.length - g.2.1).toNat))])) x) ([]) []
noncomputable def ks4 : List (Nat × Ctr) := (51, cParts) :: ks3
noncomputable def fx_step (x : HL (cStep : Ctr).as) : Fx := mkFx Try.prog env ks4 ([]) ([]) []
noncomputable def ks5 : List (Nat × Ctr) := (49, cStep) :: ks4
noncomputable def fx_rstep (x : HL (cRStep : Ctr).as) : Fx := mkFx Try.prog env ks5 ([]) ([]) []
noncomputable def ks6 : List (Nat × Ctr) := (50, cRStep) :: ks5
noncomputable def fx_new (x : HL (cNew : Ctr).as) : Fx := mkFx Try.prog env ks6 ([]) ([]) []
noncomputable def ks7 : List (Nat × Ctr) := (52, cNew) :: ks6
noncomputable def fx_none (x : HL (cNone : Ctr).as) : Fx := mkFx Try.prog env ks7 ((fun (x : HL (cNone : Ctr).as) => ([(53, 7, Ann.by [.keep 0, .keep 6, .one 8 (.row I64), .one 9 (.row I64), .one 10 (.row I64), .one 11 (.row I64), .one 12 (.d I64), .keep 28, .keep 29, .one 30 (.d I64)] (fun s g => g.1 = [] ∧ g.2.1 = [] ∧ g.2.2.1 = [] ∧ g.2.2.2.1 = [] ∧ g.2.2.2.2.1 = 0 ∧ g.2.2.2.2.2.1 = 0) (fun s g => 0)),
  (53, 27, Ann.by [.keep 0, .keep 6, .keep 8, .keep 9, .keep 11, .box 16 [.row tyCell, .d I64, .d I64, .d I64], .keep 122, .keep 123, .one 124 (.d I64)] (fun s g => g.2.1 = 0 ∧ g.1 = (List.replicate x.1.toNat (false, 0), 0, 0, 0)) (fun s g => 0)),
  (53, 32, Ann.by [.keep 0, .keep 6, .keep 8, .keep 11, .box 16 [.row tyCell, .d I64, .d I64, .d I64], .keep 141, .keep 142, .one 143 (.d I64)] (fun s g => g.2.1 = 0 ∧ g.1 = (List.replicate x.1.toNat (false, 0), 0, 0, 0)) (fun s g => 0))])) x) ([]) []
noncomputable def ks8 : List (Nat × Ctr) := (53, cNone) :: ks7
noncomputable def fx_same (x : HL (cSame : Ctr).as) : Fx := mkFx Try.prog env ks8 ((fun (x : HL (cSame : Ctr).as) => ([(55, 4, Ann.by [.keep 2, .keep 3, .keep 36, .one 37 (.d I64)] (fun s g => 0 ≤ g.1 ∧ g.1 ≤ x.1.1.length ∧ x.1.1.take g.1.toNat = x.2.1.1.take g.1.toNat) (fun s g => (x.1.1.length - g.1).toNat))])) x) ([]) []
noncomputable def ks9 : List (Nat × Ctr) := (55, cSame) :: ks8
noncomputable def fx_steps (x : HL (cLaw : Ctr).as) : Fx := mkFx Try.prog env ks9 ([]) ([]) []
noncomputable def ks10 : List (Nat × Ctr) := (11, cLaw) :: ks9
noncomputable def ksAll : List (Nat × Ctr) := ks10
end Go.Proofs.Ytollphjlheabdaa.Ring
