/-
  RingPlays: what each function computes (its contract), and what its loops keep.
-/
import Derived.Test.YtmcepjbbbkgfcaaEnv
import Derived.Test.YtmcepjbbbkgfcaaSxZA
namespace Go.Proofs.Ytmcepjbbbkgfcaa.Ringp
open Go.Sx
set_option maxRecDepth 100000
set_option linter.unusedVariables false

abbrev CE := Bool × Int
abbrev RI := List CE × Int × Int × Int
/- A ring: cells, Give, Take, Work. -/
def ce (l : List CE) (i : Int) : CE := l.getD i.toNat (false, 0)
/-- How far ahead. -/
def ah (n t k : Int) : Int := if t ≤ k then k - t else k - t + n
def okC (r : RI) (k : Int) : Prop :=
  ((ce r.1 k).1 = true ↔ (ah r.1.length r.2.2.1 r.2.2.2 ≤ ah r.1.length r.2.2.1 k ∧ ah r.1.length r.2.2.1 k < ah r.1.length r.2.2.1 r.2.1)) ∧
  (ah r.1.length r.2.2.1 r.2.1 ≤ ah r.1.length r.2.2.1 k → (ce r.1 k).2 = 0)
def inB (r : RI) : Prop := 2 ≤ (r.1.length : Int) ∧ (r.1.length : Int) ≤ 64 ∧ 0 ≤ r.2.1 ∧ r.2.1 < r.1.length ∧ 0 ≤ r.2.2.1 ∧ r.2.2.1 < r.1.length ∧ 0 ≤ r.2.2.2 ∧ r.2.2.2 < r.1.length
def Right (r : RI) : Prop := inB r ∧ ah r.1.length r.2.2.1 r.2.2.2 ≤ ah r.1.length r.2.2.1 r.2.1 ∧ ∀ k : Int, 0 ≤ k → k < r.1.length → okC r k
open Classical in
noncomputable def right (r : RI) : Bool := decide (Right r)
noncomputable def parts (r : RI) : Int × Int × Bool × Unit :=
  if right r then (ah r.1.length r.2.2.1 r.2.2.2, ah r.1.length r.2.2.1 r.2.1 - ah r.1.length r.2.2.1 r.2.2.2, true, ()) else (0, 0, false, ())
def bad (e : Int) : RI × Int × Int × Unit := (([], 0, 0, 0), 0, e, ())
noncomputable def step (r : RI) (k d : Int) : RI × Int × Int × Unit :=
  if right r then
    (if k = 1 then (if ah r.1.length r.2.2.1 r.2.1 = r.1.length - 1 then bad 7 else ((r.1.set r.2.1.toNat (true, d), (if r.2.1 + 1 = r.1.length then 0 else r.2.1 + 1), r.2.2.1, r.2.2.2), 0, 0, ()))
     else if k = 2 then (if r.2.2.2 = r.2.1 then bad 3 else ((r.1.set r.2.2.2.toNat (false, -1 - (ce r.1 r.2.2.2).2), r.2.1, r.2.2.1, (if r.2.2.2 + 1 = r.1.length then 0 else r.2.2.2 + 1)), 0, 0, ()))
     else if k = 3 then (if r.2.2.1 = r.2.2.2 then bad 3 else ((r.1.set r.2.2.1.toNat (false, 0), r.2.1, (if r.2.2.1 + 1 = r.1.length then 0 else r.2.2.1 + 1), r.2.2.2), (ce r.1 r.2.2.1).2, 0, ()))
     else bad 5)
  else bad 1
def new (n : Int) : RI × Int × Unit := if n < 2 ∨ 64 < n then (([], 0, 0, 0), 2, ()) else ((List.replicate n.toNat (false, 0), 0, 0, 0), 0, ())
@[reducible] def cClone : Ctr := ⟨[.sl tyCell], [.sl tyCell], fun x => x.1.length * 16 ≤ 140737488355328, fun x => (x.1, ()), true⟩
@[reducible] def cAhead : Ctr := ⟨[tyRing, I64, I64], [I64], fun x => 0 ≤ x.2.1 ∧ x.2.1 < x.1.1.length ∧ 0 ≤ x.2.2.1 ∧ x.2.2.1 < x.1.1.length ∧ (x.1.1.length : Int) ≤ 64, fun x => (ah x.1.1.length x.2.1 x.2.2.1, ()), false⟩
@[reducible] noncomputable def cRight : Ctr := ⟨[tyRing], [.bool], fun _ => True, fun x => (right x.1, ()), false⟩
@[reducible] noncomputable def cParts : Ctr := ⟨[tyRing], [I64, I64, .bool], fun _ => True, fun x => parts x.1, false⟩
@[reducible] noncomputable def cStep : Ctr := ⟨[tyRing, tyRingOp], [tyRing, I64, I64], fun _ => True, fun x => step x.1 x.2.1.1 x.2.1.2, false⟩
@[reducible] noncomputable def cRStep : Ctr := ⟨[tyRing, tyRingOp], [tyRing, I64, I64], fun x => x.1.1.length * 16 ≤ 140737488355328, fun x => step x.1 x.2.1.1 x.2.1.2, false⟩
@[reducible] def cNew : Ctr := ⟨[I64], [tyRing, I64], fun _ => True, fun x => new x.1, false⟩
@[reducible] def cNone : Ctr := ⟨[I64, .sl tyRingOp], [.sl I64, .sl I64, tyRing, I64], fun x => x.2.1 = [], fun x => ([], [], (new x.1).1, (new x.1).2.1, ()), false⟩
@[reducible] def cSame : Ctr := ⟨[tyRing, tyRing], [.bool], fun _ => True, fun x => (decide (x.1 = x.2.1), ()), false⟩
@[reducible] def cLaw : Ctr := ⟨[tyRing, tyRingOp, I64], [.bool], fun x => x.1.1.length * 16 ≤ 140737488355328, fun _ => (true, ()), false⟩
/-- The place so far ahead of Take. -/
def pl (r : RI) (j : Int) : Int := if r.2.2.1 + j < r.1.length then r.2.2.1 + j else r.2.2.1 + j - r.1.length
def devs (r : RI) (a b : Int) (v : Bool) : Prop := ∀ j : Int, a ≤ j → j < b → (ce r.1 (pl r j)).1 = v
def free (r : RI) (a b : Int) : Prop := ∀ j : Int, a ≤ j → j < b → ce r.1 (pl r j) = (false, 0)


/- The place so far ahead of another one. -/
def pos (n t j : Int) : Int := if t + j < n then t + j else t + j - n
/- The cells of a ring of n, by how far they are ahead of Take. -/
def cellsF (n t : Int) (F : Int → CE) : List CE := (List.range n.toNat).map (fun (p : Nat) => F (ah n t (p : Int)))
/- By what was worked at, and what was given. -/
def Fq (w v : List Int) (j : Int) : CE := if j < w.length then (false, w.getD j.toNat 0) else if j < w.length + v.length then (true, v.getD (j - w.length).toNat 0) else (false, 0)
/- The queues: what is wrong with each, what was taken, what was worked at, what was given. -/
abbrev QS := List Int × List Int × List Int × List Int
def ringOf (n : Int) (s : QS) : RI := (cellsF n (s.2.1.length % n) (Fq s.2.2.1 s.2.2.2), pos n (s.2.1.length % n) (s.2.2.1.length + s.2.2.2.length), s.2.1.length % n, pos n (s.2.1.length % n) s.2.2.1.length)
def qst (n : Int) (s : QS) (o : Int × Int) : QS × Int :=
  if o.1 = 1 then (if (s.2.2.2.length + s.2.2.1.length : Int) = n - 1 then (s, 7) else ((s.1, s.2.1, s.2.2.1, s.2.2.2 ++ [o.2]), 0))
  else if o.1 = 2 then (if s.2.2.2 = [] then (s, 3) else ((s.1, s.2.1, s.2.2.1 ++ [-1 - s.2.2.2.getD 0 0], s.2.2.2.drop 1), 0))
  else if o.1 = 3 then (if s.2.2.1 = [] then (s, 3) else ((s.1, s.2.1 ++ [s.2.2.1.getD 0 0], s.2.2.1.drop 1, s.2.2.2), 0))
  else (s, 5)
def qone (n : Int) (s : QS) (o : Int × Int) : QS := (s.1 ++ [(qst n s o).2], (qst n s o).1.2)
def qpl (n : Int) (ops : List (Int × Int)) : QS := ops.foldl (qone n) ([], [], [], [])
def rplay (n : Int) (ops : List (Int × Int)) : List Int × List Int × RI × Int × Unit :=
  if n < 2 ∨ 64 < n then ([], [], ([], 0, 0, 0), 2, ()) else ((qpl n ops).1, (qpl n ops).2.1, ringOf n (qpl n ops), 0, ())
@[reducible] def cEqual : Ctr := ⟨[.sl I64, .sl I64], [.bool], fun _ => True, fun x => (decide (x.1 = x.2.1), ()), false⟩
@[reducible] def cRPlay : Ctr := ⟨[I64, .sl tyRingOp], [.sl I64, .sl I64, tyRing, I64], fun x => x.2.1.length * 16 ≤ 140737488355328, fun x => rplay x.1 x.2.1, false⟩
@[reducible] def cLawP : Ctr := ⟨[I64, .sl tyRingOp], [.bool], fun x => x.2.1.length * 16 ≤ 140737488355328, fun _ => (true, ()), false⟩


noncomputable def ks0 : List (Nat × Ctr) := []
noncomputable def fx_clone (x : HL (cClone : Ctr).as) : Fx := mkFx Try.prog env ks0 ([]) ([]) []
noncomputable def ks1 : List (Nat × Ctr) := (89, cClone) :: ks0
noncomputable def fx_ahead (x : HL (cAhead : Ctr).as) : Fx := mkFx Try.prog env ks1 ([]) ([]) []
noncomputable def ks2 : List (Nat × Ctr) := (90, cAhead) :: ks1
noncomputable def fx_right (x : HL (cRight : Ctr).as) : Fx := mkFx Try.prog env ks2 ((fun (x : HL (cRight : Ctr).as) => ([(88, 5, Ann.by [.keep 1, .keep 54, .keep 55, .one 56 (.d I64)] (fun s g => 0 ≤ g.1 ∧ g.1 ≤ x.1.1.length ∧ ∀ i : Int, 0 ≤ i → i < g.1 → okC x.1 i) (fun s g => (x.1.1.length - g.1).toNat))])) x) ([]) []
noncomputable def ks3 : List (Nat × Ctr) := (88, cRight) :: ks2
noncomputable def fx_step (x : HL (cStep : Ctr).as) : Fx := mkFx Try.prog env ks3 ([]) ([]) []
noncomputable def ks4 : List (Nat × Ctr) := (71, cStep) :: ks3
noncomputable def fx_new (x : HL (cNew : Ctr).as) : Fx := mkFx Try.prog env ks4 ([]) ([]) []
noncomputable def ks5 : List (Nat × Ctr) := (70, cNew) :: ks4
noncomputable def fx_same (x : HL (cSame : Ctr).as) : Fx := mkFx Try.prog env ks5 ((fun (x : HL (cSame : Ctr).as) => ([(47, 4, Ann.by [.keep 2, .keep 3, .keep 36, .one 37 (.d I64)] (fun s g => 0 ≤ g.1 ∧ g.1 ≤ x.1.1.length ∧ x.1.1.take g.1.toNat = x.2.1.1.take g.1.toNat) (fun s g => (x.1.1.length - g.1).toNat))])) x) ([]) []
noncomputable def ks6 : List (Nat × Ctr) := (47, cSame) :: ks5
noncomputable def fx_equal (x : HL (cEqual : Ctr).as) : Fx := mkFx Try.prog env ks6 ((fun (x : HL (cEqual : Ctr).as) => ([(18, 4, Ann.by [.keep 0, .keep 1, .keep 12, .one 13 (.d I64)] (fun s g => 0 ≤ g.1 ∧ g.1 ≤ x.1.length ∧ x.1.take g.1.toNat = x.2.1.take g.1.toNat) (fun s g => (x.1.length - g.1).toNat))])) x) ([]) []
noncomputable def ks7 : List (Nat × Ctr) := (18, cEqual) :: ks6
noncomputable def fx_equale (x : HL (cEqual : Ctr).as) : Fx := mkFx Try.prog env ks7 ((fun (x : HL (cEqual : Ctr).as) => ([(21, 4, Ann.by [.keep 0, .keep 1, .keep 12, .one 13 (.d I64)] (fun s g => 0 ≤ g.1 ∧ g.1 ≤ x.1.length ∧ x.1.take g.1.toNat = x.2.1.take g.1.toNat) (fun s g => (x.1.length - g.1).toNat))])) x) ([]) []
noncomputable def ks8 : List (Nat × Ctr) := (21, cEqual) :: ks7
noncomputable def fx_play (x : HL (cRPlay : Ctr).as) : Fx := mkFx Try.prog env ks8 ((fun (x : HL (cRPlay : Ctr).as) => ([(45, 7, Ann.by [.keep 6, .box 8 [.d tyRing], .one 10 (.row I64), .one 11 (.row I64), .keep 26, .keep 27, .one 28 (.d I64)] (fun s g => 0 ≤ g.2.2.2.1 ∧ g.2.2.2.1 ≤ x.2.1.length ∧ (2 ≤ x.1 ∧ x.1 ≤ 64) ∧ (qpl x.1 (x.2.1.take g.2.2.2.1.toNat)).1 = g.2.1 ∧ (qpl x.1 (x.2.1.take g.2.2.2.1.toNat)).2.1 = g.2.2.1 ∧ g.1 = ringOf x.1 (qpl x.1 (x.2.1.take g.2.2.2.1.toNat)) ∧ (g.2.1.length : Int) = g.2.2.2.1 ∧ (g.2.2.1.length : Int) ≤ g.2.2.2.1) (fun s g => (x.2.1.length - g.2.2.2.1).toNat))])) x) ([]) []
noncomputable def ks9 : List (Nat × Ctr) := (45, cRPlay) :: ks8
noncomputable def fx_rplay (x : HL (cRPlay : Ctr).as) : Fx := mkFx Try.prog env ks9 ((fun (x : HL (cRPlay : Ctr).as) => ([(46, 7, Ann.by [.keep 0, .keep 6, .one 8 (.row I64), .one 9 (.row I64), .one 10 (.row I64), .one 11 (.row I64), .one 12 (.d I64), .keep 28, .keep 29, .one 30 (.d I64)] (fun s g => 0 ≤ g.2.2.2.2.2.1 ∧ g.2.2.2.2.2.1 ≤ x.2.1.length ∧ (2 ≤ x.1 ∧ x.1 ≤ 64) ∧ qpl x.1 (x.2.1.take g.2.2.2.2.2.1.toNat) = (g.1, g.2.2.2.1, g.2.2.1, g.2.1) ∧ (g.1.length : Int) = g.2.2.2.2.2.1 ∧ g.2.2.2.2.1 = g.2.2.2.1.length + g.2.2.1.length + g.2.1.length ∧ g.2.2.2.2.1 ≤ g.2.2.2.2.2.1 ∧ (g.2.2.1.length + g.2.1.length : Int) ≤ x.1 - 1) (fun s g => (x.2.1.length - g.2.2.2.2.2.1).toNat)),
  (46, 27, Ann.by [.keep 0, .keep 6, .keep 8, .keep 9, .keep 11, .box 16 [.row tyCell, .d I64, .d I64, .d I64], .keep 122, .keep 123, .one 124 (.d I64)] (fun s g => 0 ≤ g.2.1 ∧ g.2.1 ≤ (s.dat (.sl I64) 122).length ∧ g.1.2 = (ringOf x.1 (qpl x.1 x.2.1)).2 ∧ g.1.1 = cellsF x.1 ((s.dat (.sl I64) 11).length % x.1) (Fq ((s.dat (.sl I64) 122).take g.2.1.toNat) [])) (fun s g => ((s.dat (.sl I64) 122).length - g.2.1).toNat)),
  (46, 32, Ann.by [.keep 0, .keep 6, .keep 8, .keep 11, .box 16 [.row tyCell, .d I64, .d I64, .d I64], .keep 141, .keep 142, .one 143 (.d I64)] (fun s g => 0 ≤ g.2.1 ∧ g.2.1 ≤ (s.dat (.sl I64) 141).length ∧ g.1.2 = (ringOf x.1 (qpl x.1 x.2.1)).2 ∧ g.1.1 = cellsF x.1 ((s.dat (.sl I64) 11).length % x.1) (Fq (qpl x.1 x.2.1).2.2.1 ((s.dat (.sl I64) 141).take g.2.1.toNat))) (fun s g => ((s.dat (.sl I64) 141).length - g.2.1).toNat))])) x) ([]) [(46,3000088),(46,4000020),(46,3000100),(46,4000022)]
noncomputable def ks10 : List (Nat × Ctr) := (46, cRPlay) :: ks9
noncomputable def fx_plays (x : HL (cLawP : Ctr).as) : Fx := mkFx Try.prog env ks10 ([]) ([]) []
noncomputable def ks11 : List (Nat × Ctr) := (12, cLawP) :: ks10
noncomputable def ksAll : List (Nat × Ctr) := ks11
end Go.Proofs.Ytmcepjbbbkgfcaa.Ringp
