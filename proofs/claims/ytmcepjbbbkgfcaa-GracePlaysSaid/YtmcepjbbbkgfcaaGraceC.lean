/-
  GracePlays: what each function computes (its contract), and what its loops keep.
-/
import Derived.Test.YtmcepjbbbkgfcaaEnv
import Derived.Test.YtmcepjbbbkgfcaaSxZA
namespace Go.Proofs.Ytmcepjbbbkgfcaa.Grace
open Go.Sx
set_option maxRecDepth 100000
set_option linter.unusedVariables false

/- Which cores look; what waits, and which cores may still look at it; what was freed. -/
abbrev GS := List Bool × List (Int × List Bool) × List Int
def nob : List Bool := [false, false, false, false, false, false, false, false]
def lf (W : List (Int × List Bool)) : List (Int × List Bool) := W.filter (fun r => !(decide (r.2 = nob)))
def ff (W : List (Int × List Bool)) : List Int := (W.filter (fun r => decide (r.2 = nob))).map (fun r => r.1)
def fr (s : GS) : GS := (s.1, lf s.2.1, s.2.2 ++ ff s.2.1)
def held (W : List (Int × List Bool)) (t : Int) : Bool := W.any (fun r => decide (r.1 = t))
def clr (c : Int) (r : Int × List Bool) : Int × List Bool := (r.1, r.2.set c.toNat false)
def dst (s : GS) (o : Int × Int × Int) : GS × Int :=
  if o.1 < 1 ∨ 3 < o.1 then (s, 5)
  else if o.1 = 3 then (if held s.2.1 o.2.2 = true then (s, 6) else (fr (s.1, s.2.1 ++ [(o.2.2, s.1)], s.2.2), 0))
  else if o.2.1 < 0 ∨ 8 ≤ o.2.1 then (s, 2)
  else if o.1 = 1 then (if s.1.getD o.2.1.toNat false = true then (s, 6) else ((s.1.set o.2.1.toNat true, s.2.1, s.2.2), 0))
  else (if s.1.getD o.2.1.toNat false = false then (s, 3) else (fr (s.1.set o.2.1.toNat false, s.2.1.map (clr o.2.1), s.2.2), 0))
def one (p : GS × List Int × List Int) (o : Int × Int × Int) : GS × List Int × List Int :=
  ((dst p.1 o).1, p.2.1 ++ [(dst p.1 o).2], p.2.2 ++ [((dst p.1 o).1.2.2.length : Int)])
def pl (ops : List (Int × Int × Int)) : GS × List Int × List Int := ops.foldl one ((nob, [], []), [], [])
def play (ops : List (Int × Int × Int)) : List Int × List Int × List Int × List Int × Unit :=
  ((pl ops).2.1, (pl ops).2.2, (pl ops).1.2.2, (pl ops).1.2.1.map (fun r => r.1), ())
/- The document's: when each core went in; the things, and when each was retired. -/
def seen (si : List Int) (a : Int) : Bool := si.any (fun s => decide (0 ≤ s ∧ s < a))
def cor (si : List Int) (t : Int × Int) : Int × List Bool := (t.1, si.map (fun s => decide (0 ≤ s ∧ s < t.2)))
def heldx (L : List (Int × Int)) (t : Int) : Bool := L.any (fun r => decide (r.1 = t))
def xw (si : List Int) (li : List (Int × Int)) (o : Int × Int × Int) (now : Int) : List Int × List (Int × Int) × Int :=
  if o.1 < 1 ∨ 3 < o.1 then (si, li, 5)
  else if o.1 = 3 ∧ heldx li o.2.2 = true then (si, li, 6)
  else if o.1 = 3 then (si, li ++ [(o.2.2, now)], 0)
  else if o.2.1 < 0 ∨ 7 < o.2.1 then (si, li, 2)
  else if o.1 = 1 ∧ 0 ≤ si.getD o.2.1.toNat 0 then (si, li, 6)
  else if o.1 = 1 then (si.set o.2.1.toNat now, li, 0)
  else if si.getD o.2.1.toNat 0 < 0 then (si, li, 3)
  else (si.set o.2.1.toNat (-1), li, 0)
def xl (si : List Int) (L : List (Int × Int)) : List (Int × Int) := L.filter (fun t => seen si t.2)
def xf (si : List Int) (L : List (Int × Int)) : List Int := (L.filter (fun t => !(seen si t.2))).map (fun t => t.1)
def Rel (k : Int) (st : GS) (si : List Int) (li : List (Int × Int)) : Prop :=
  si.length = 8 ∧ (∀ s ∈ si, s < k) ∧ (∀ t ∈ li, t.2 < k) ∧ st.1 = si.map (fun s => decide (0 ≤ s)) ∧ st.2.1 = li.map (cor si) ∧ ∀ t ∈ li, seen si t.2 = true
@[reducible] def cEqual : Ctr := ⟨[.sl I64, .sl I64], [.bool], fun _ => True, fun x => (decide (x.1 = x.2.1), ()), false⟩
@[reducible] def cPlay : Ctr := ⟨[.sl tyGraceOp], [.sl I64, .sl I64, .sl I64, .sl I64], fun x => x.1.length * 24 ≤ 140737488355328, fun x => play x.1, false⟩
@[reducible] def cLaw : Ctr := ⟨[.sl tyGraceOp], [.bool], fun x => x.1.length * 24 ≤ 140737488355328, fun _ => (true, ()), false⟩


noncomputable def ks0 : List (Nat × Ctr) := []
noncomputable def fx_equal (x : HL (cEqual : Ctr).as) : Fx := mkFx Try.prog env ks0 ((fun (x : HL (cEqual : Ctr).as) => ([(18, 4, Ann.by [.keep 0, .keep 1, .keep 12, .one 13 (.d I64)] (fun s g => 0 ≤ g.1 ∧ g.1 ≤ x.1.length ∧ x.1.take g.1.toNat = x.2.1.take g.1.toNat) (fun s g => (x.1.length - g.1).toNat))])) x) ([]) []
noncomputable def ks1 : List (Nat × Ctr) := (18, cEqual) :: ks0
noncomputable def fx_equale (x : HL (cEqual : Ctr).as) : Fx := mkFx Try.prog env ks1 ((fun (x : HL (cEqual : Ctr).as) => ([(21, 4, Ann.by [.keep 0, .keep 1, .keep 12, .one 13 (.d I64)] (fun s g => 0 ≤ g.1 ∧ g.1 ≤ x.1.length ∧ x.1.take g.1.toNat = x.2.1.take g.1.toNat) (fun s g => (x.1.length - g.1).toNat))])) x) ([]) []
noncomputable def ks2 : List (Nat × Ctr) := (21, cEqual) :: ks1
noncomputable def fx_play (x : HL (cPlay : Ctr).as) : Fx := mkFx Try.prog env ks2 ((fun (x : HL (cPlay : Ctr).as) => ([(19, 5, Ann.by [.box 6 [.d (.arr 8 Bo), .row tyretired, .row I64], .one 7 (.row I64), .one 8 (.row I64), .keep 9, .keep 16, .keep 17, .one 18 (.d I64)] (fun s g => 0 ≤ g.2.2.2.1 ∧ g.2.2.2.1 ≤ x.1.length ∧ pl (x.1.take g.2.2.2.1.toNat) = (g.1, g.2.1, g.2.2.1) ∧ (g.1.2.1.length + g.1.2.2.length : Int) ≤ g.2.2.2.1 ∧ (g.2.1.length : Int) = g.2.2.2.1 ∧ (g.2.2.1.length : Int) = g.2.2.2.1) (fun s g => (x.1.length - g.2.2.2.1).toNat)),
  (19, 11, Ann.by [.keep 6, .keep 7, .keep 8, .one 9 (.row I64), .keep 40, .keep 41, .one 42 (.d I64)] (fun s g => 0 ≤ g.2.1 ∧ g.2.1 ≤ (s.dat (.sl tyretired) 40).length ∧ g.1 = ((s.dat (.sl tyretired) 40).take g.2.1.toNat).map (fun r => r.1)) (fun s g => ((s.dat (.sl tyretired) 40).length - g.2.1).toNat)),
  (53, 18, Ann.by [.bk, .box 0 [.d (.arr 8 Bo), .row tyretired, .keep], .keep 3, .keep 91, .one 92 (.d I64)] (fun s g => 0 ≤ g.2.1 ∧ g.2.1 ≤ (s.bxd (.sl tyretired) 0 1).length ∧ g.1.1 = s.bxd (.arr 8 Bo) 0 0 ∧ g.1.2.1 = ((s.bxd (.sl tyretired) 0 1).take g.2.1.toNat).map (clr (s.bxd tyGraceOp 3 0).2.1) ++ (s.bxd (.sl tyretired) 0 1).drop g.2.1.toNat) (fun s g => ((s.bxd (.sl tyretired) 0 1).length - g.2.1).toNat)),
  (73, 2, Ann.by [.bk, .keep 1, .keep 10, .keep 11, .one 12 (.d I64)] (fun s g => 0 ≤ g.1 ∧ g.1 ≤ (s.dat (.sl tyretired) 10).length ∧ held ((s.dat (.sl tyretired) 10).take g.1.toNat) (s.dat I64 1) = false) (fun s g => ((s.dat (.sl tyretired) 10).length - g.1).toNat)),
  (74, 2, Ann.by [.bk, .box 0 [.d (.arr 8 Bo), .keep, .row I64], .one 2 (.row tyretired), .keep 8, .keep 9, .one 10 (.d I64)] (fun s g => 0 ≤ g.2.2.1 ∧ g.2.2.1 ≤ (s.dat (.sl tyretired) 8).length ∧ g.1.1 = s.bxd (.arr 8 Bo) 0 0 ∧ g.1.2.2 = s.bxd (.sl I64) 0 2 ++ ff ((s.dat (.sl tyretired) 8).take g.2.2.1.toNat) ∧ g.2.1 = lf ((s.dat (.sl tyretired) 8).take g.2.2.1.toNat)) (fun s g => ((s.dat (.sl tyretired) 8).length - g.2.2.1).toNat))])) x) ([]) []
noncomputable def ks3 : List (Nat × Ctr) := (19, cPlay) :: ks2
noncomputable def fx_xplay (x : HL (cPlay : Ctr).as) : Fx := mkFx Try.prog env ks3 ((fun (x : HL (cPlay : Ctr).as) => ([(20, 6, Ann.by [.box 6 [.d (.arr 8 I64)], .one 7 (.row tything), .one 8 (.row I64), .one 9 (.row I64), .one 10 (.row I64), .keep 11, .keep 27, .keep 28, .one 29 (.d I64)] (fun s g => 0 ≤ g.2.2.2.2.2.1 ∧ g.2.2.2.2.2.1 ≤ x.1.length ∧ (pl (x.1.take g.2.2.2.2.2.1.toNat)).2 = (g.2.2.1, g.2.2.2.1) ∧ (pl (x.1.take g.2.2.2.2.2.1.toNat)).1.2.2 = g.2.2.2.2.1 ∧ Rel g.2.2.2.2.2.1 (pl (x.1.take g.2.2.2.2.2.1.toNat)).1 g.1 g.2.1 ∧ (g.2.1.length + g.2.2.2.2.1.length : Int) ≤ g.2.2.2.2.2.1 ∧ (g.2.2.1.length : Int) = g.2.2.2.2.2.1 ∧ (g.2.2.2.1.length : Int) = g.2.2.2.2.2.1) (fun s g => (x.1.length - g.2.2.2.2.2.1).toNat)),
  (20, 11, Ann.by [.keep 6, .keep 7, .keep 8, .keep 9, .keep 10, .keep 11, .keep 12, .keep 13, .keep 14, .one 15 (.d Bo), .keep 27, .keep 28, .keep 29, .keep 34, .keep 35, .one 36 (.d I64)] (fun s g => 0 ≤ g.2.1 ∧ g.2.1 ≤ (s.dat (.sl tything) 34).length ∧ g.1 = heldx ((s.dat (.sl tything) 34).take g.2.1.toNat) (s.bxd tyGraceOp 13 0).2.2) (fun s g => ((s.dat (.sl tything) 34).length - g.2.1).toNat)),
  (20, 32, Ann.by [.keep 6, .keep 8, .keep 9, .one 10 (.row I64), .keep 11, .keep 14, .one 18 (.row tything), .keep 27, .keep 28, .keep 29, .keep 113, .keep 114, .one 115 (.d I64)] (fun s g => 0 ≤ g.2.2.1 ∧ g.2.2.1 ≤ (s.dat (.sl tything) 113).length ∧ g.1 = s.dat (.sl I64) 10 ++ xf (s.bxd (.arr 8 I64) 6 0) ((s.dat (.sl tything) 113).take g.2.2.1.toNat) ∧ g.2.1 = xl (s.bxd (.arr 8 I64) 6 0) ((s.dat (.sl tything) 113).take g.2.2.1.toNat)) (fun s g => ((s.dat (.sl tything) 113).length - g.2.2.1).toNat)),
  (20, 36, Ann.by [.keep 6, .keep 8, .keep 9, .keep 10, .keep 11, .keep 14, .keep 18, .keep 20, .one 21 (.d Bo), .keep 27, .keep 28, .keep 29, .keep 113, .keep 114, .keep 115, .keep 119, .one 120 (.d I64)] (fun s g => 0 ≤ g.2.1 ∧ g.2.1 ≤ 8 ∧ g.1 = seen ((s.bxd (.arr 8 I64) 6 0).take g.2.1.toNat) (s.bxd tything 20 0).2) (fun s g => (8 - g.2.1).toNat)),
  (20, 48, Ann.by [.keep 8, .keep 9, .keep 10, .one 11 (.row I64), .keep 157, .keep 158, .one 159 (.d I64)] (fun s g => 0 ≤ g.2.1 ∧ g.2.1 ≤ (s.dat (.sl tything) 157).length ∧ g.1 = ((s.dat (.sl tything) 157).take g.2.1.toNat).map (fun r => r.1)) (fun s g => ((s.dat (.sl tything) 157).length - g.2.1).toNat))])) x) ((fun (x : HL (cPlay : Ctr).as) => ([(20, 30, Ann.by [.box 6 [.d (.arr 8 I64)], .one 7 (.row tything), .keep 8, .keep 9, .keep 10, .keep 11, .one 14 (.d I64), .keep 27, .keep 28, .keep 29] (fun s g => (g.1, g.2.1, g.2.2.1) = xw (s.bxd (.arr 8 I64) 6 0) (s.dat (.sl tything) 7) (s.bxd tyGraceOp 13 0) (s.dat I64 29)) (fun s g => 0))])) x) []
noncomputable def ks4 : List (Nat × Ctr) := (20, cPlay) :: ks3
noncomputable def fx_plays (x : HL (cLaw : Ctr).as) : Fx := mkFx Try.prog env ks4 ([]) ([]) []
noncomputable def ks5 : List (Nat × Ctr) := (4, cLaw) :: ks4
noncomputable def ksAll : List (Nat × Ctr) := ks5
end Go.Proofs.Ytmcepjbbbkgfcaa.Grace
