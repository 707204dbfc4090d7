/-
  ChainPlays: what each function computes (its contract), and what its loops keep.
-/
import Derived.Test.YtmcepjbbbkgfcaaEnv
import Derived.Test.YtmcepjbbbkgfcaaSxZA
namespace Go.Proofs.Ytmcepjbbbkgfcaa.Chainp
open Go.Sx
set_option maxRecDepth 100000
set_option linter.unusedVariables false

abbrev HA := Int × Int
abbrev TA := Int × Int × Bool
def okH (h : HA) : Bool := decide (1 ≤ h.1) && decide (h.1 ≤ 2) && decide (0 ≤ h.2) && decide (h.2 ≤ 1099511627776)
def right (l : List HA) : Bool := decide ((l.length : Int) ≤ 16) && l.all okH
def dec (h : HA) : HA := if h.2 = 0 then h else (h.1, h.2 - 1)
def act (h : HA) : Bool := decide (h.2 ≠ 0)
def wk1 (s : Int × List Int) (h : HA) : Int × List Int := (s.1 + 1, if h.2 ≠ 0 ∧ h.1 = 2 then s.2 ++ [s.1] else s.2)
def wk (l : List HA) : List Int := (l.foldl wk1 (0, [])).2
def nob (l : List HA) (n : Int) : Int := if l.any act then 0 else n + 1
def bad (e : Int) : List HA × List Int × TA × Int × Unit := ([], [], (0, 0, false), e, ())
def okT (t : TA) : Prop := 0 ≤ t.1 ∧ t.1 ≤ 1099511627776 ∧ 0 ≤ t.2.1 ∧ t.2.1 ≤ 5 ∧ (t.2.2 = true ↔ t.2.1 = 5)
open Classical in
noncomputable def serve (l : List HA) (t : TA) : List HA × List Int × TA × Int × Unit :=
  if right l = true ∧ okT t then
    (if t.2.2 = true then bad 7
     else if t.1 = 1099511627776 then bad 4
     else (l.map dec, wk l, (t.1 + 1, nob l t.2.1, decide (nob l t.2.1 = 5)), 0, ()))
  else bad 1
@[reducible] def cClone : Ctr := ⟨[.sl tyHandler], [.sl tyHandler], fun x => x.1.length * 16 ≤ 140737488355328, fun x => (x.1, ()), true⟩
@[reducible] def cBad : Ctr := ⟨[tyHandler], [.bool], fun _ => True, fun x => (!(okH x.1), ()), false⟩
@[reducible] def cRight : Ctr := ⟨[.sl tyHandler], [.bool], fun _ => True, fun x => (right x.1, ()), false⟩
@[reducible] noncomputable def cServe : Ctr := ⟨[.sl tyHandler, tyTally], [.sl tyHandler, .sl I64, tyTally, I64], fun _ => True, fun x => serve x.1 x.2.1, false⟩
@[reducible] def cEqH : Ctr := ⟨[.sl tyHandler, .sl tyHandler], [.bool], fun _ => True, fun x => (decide (x.1 = x.2.1), ()), false⟩
@[reducible] def cEqual : Ctr := ⟨[.sl I64, .sl I64], [.bool], fun _ => True, fun x => (decide (x.1 = x.2.1), ()), false⟩
@[reducible] def cLaw : Ctr := ⟨[.sl tyHandler, tyTally], [.bool], fun _ => True, fun _ => (true, ()), false⟩


def down (n : Int) (h : HA) : HA := (h.1, h.2 - min h.2 n)
def decN (n : Int) (l : List HA) : List HA := l.map (down n)
def wj1 (n : Int) (s : Int × List Int) (h : HA) : Int × List Int := (s.1 + 1, if n < h.2 ∧ h.1 = 2 then s.2 ++ [s.1] else s.2)
def wj (n : Int) (l : List HA) : Int × List Int := l.foldl (wj1 n) (0, [])
def wkN (l : List HA) : Nat → List Int
  | 0 => []
  | m + 1 => wkN l m ++ (wj m l).2
def mx1 (a : Int) (h : HA) : Int := max a (min h.2 1000)
def mx (l : List HA) : Int := l.foldl mx1 0
def came (l : List HA) (times : Int) : Int := min times (mx l + 5)
def tal (l : List HA) (n : Int) : TA := (n, max (n - mx l) 0, decide (max (n - mx l) 0 = 5))
def iplay (l : List HA) (times : Int) : List HA × List Int × TA × Unit := (decN (came l times) l, wkN l (came l times).toNat, tal l (came l times), ())
def play (l : List HA) (times : Int) : List HA × List Int × TA × Int × Unit :=
  if right l = false then ([], [], (0, 0, false), 1, ()) else if times < 0 ∨ 400 < times then ([], [], (0, 0, false), 2, ())
  else ((iplay l times).1, (iplay l times).2.1, (iplay l times).2.2.1, 0, ())
@[reducible] def cCloneD : Ctr := ⟨[.sl tyHandler], [.sl tyHandler], fun x => x.1.length * 16 ≤ 140737488355328, fun x => (x.1, ()), false⟩
@[reducible] def cPlay : Ctr := ⟨[.sl tyHandler, I64], [.sl tyHandler, .sl I64, tyTally, I64], fun _ => True, fun x => play x.1 x.2.1, false⟩
@[reducible] def cIPlay : Ctr := ⟨[.sl tyHandler, I64], [.sl tyHandler, .sl I64, tyTally], fun x => right x.1 = true ∧ 0 ≤ x.2.1 ∧ x.2.1 ≤ 400, fun x => iplay x.1 x.2.1, false⟩
@[reducible] def cLawP : Ctr := ⟨[.sl tyHandler, I64], [.bool], fun _ => True, fun _ => (true, ()), false⟩


noncomputable def ks0 : List (Nat × Ctr) := []
noncomputable def fx_equal (x : HL (cEqual : Ctr).as) : Fx := mkFx Try.prog env ks0 ((fun (x : HL (cEqual : Ctr).as) => ([(18, 4, Ann.by [.keep 0, .keep 1, .keep 12, .one 13 (.d I64)] (fun s g => 0 ≤ g.1 ∧ g.1 ≤ x.1.length ∧ x.1.take g.1.toNat = x.2.1.take g.1.toNat) (fun s g => (x.1.length - g.1).toNat))])) x) ([]) []
noncomputable def ks1 : List (Nat × Ctr) := (18, cEqual) :: ks0
noncomputable def fx_eqh (x : HL (cEqH : Ctr).as) : Fx := mkFx Try.prog env ks1 ((fun (x : HL (cEqH : Ctr).as) => ([(17, 4, Ann.by [.keep 0, .keep 1, .keep 12, .one 13 (.d I64)] (fun s g => 0 ≤ g.1 ∧ g.1 ≤ x.1.length ∧ x.1.take g.1.toNat = x.2.1.take g.1.toNat) (fun s g => (x.1.length - g.1).toNat))])) x) ([]) []
noncomputable def ks2 : List (Nat × Ctr) := (17, cEqH) :: ks1
noncomputable def fx_clone (x : HL (cClone : Ctr).as) : Fx := mkFx Try.prog env ks2 ([]) ([]) []
noncomputable def ks3 : List (Nat × Ctr) := (49, cClone) :: ks2
noncomputable def fx_badh (x : HL (cBad : Ctr).as) : Fx := mkFx Try.prog env ks3 ([]) ([]) []
noncomputable def ks4 : List (Nat × Ctr) := (52, cBad) :: ks3
noncomputable def fx_right (x : HL (cRight : Ctr).as) : Fx := mkFx Try.prog env ks4 ((fun (x : HL (cRight : Ctr).as) => ([(72, 2, Ann.by [.keep 0, .keep 1, .keep 7, .one 8 (.d I64)] (fun s g => 0 ≤ g.1 ∧ g.1 ≤ x.1.length ∧ (x.1.take g.1.toNat).all okH = true) (fun s g => (x.1.length - g.1).toNat))])) x) ([]) []
noncomputable def ks5 : List (Nat × Ctr) := (15, cRight) :: ks4
noncomputable def fx_iright (x : HL (cRight : Ctr).as) : Fx := mkFx Try.prog env ks5 ((fun (x : HL (cRight : Ctr).as) => ([(16, 3, Ann.by [.one 3 (.d Bo), .keep 9, .keep 10, .one 11 (.d I64)] (fun s g => 0 ≤ g.2.1 ∧ g.2.1 ≤ x.1.length ∧ g.1 = (decide ((x.1.length : Int) ≤ 16) && (x.1.take g.2.1.toNat).all okH)) (fun s g => (x.1.length - g.2.1).toNat))])) x) ([]) []
noncomputable def ks6 : List (Nat × Ctr) := (16, cRight) :: ks5
noncomputable def fx_serve (x : HL (cServe : Ctr).as) : Fx := mkFx Try.prog env ks6 ((fun (x : HL (cServe : Ctr).as) => ([(13, 12, Ann.by [.keep 3, .keep 6, .one 9 (.row tyHandler), .one 10 (.row I64), .one 11 (.d Bo), .keep 74, .one 75 (.d I64)] (fun s g => 0 ≤ g.2.2.2.1 ∧ g.2.2.2.1 ≤ x.1.length ∧ g.1 = (x.1.take g.2.2.2.1.toNat).map dec ++ x.1.drop g.2.2.2.1.toNat ∧ (x.1.take g.2.2.2.1.toNat).foldl wk1 (0, []) = (g.2.2.2.1, g.2.1) ∧ (g.2.1.length : Int) ≤ g.2.2.2.1 ∧ g.2.2.1 = (x.1.take g.2.2.2.1.toNat).any act) (fun s g => (x.1.length - g.2.2.2.1).toNat))])) x) ([]) []
noncomputable def ks7 : List (Nat × Ctr) := (13, cServe) :: ks6
noncomputable def fx_iserve (x : HL (cServe : Ctr).as) : Fx := mkFx Try.prog env ks7 ((fun (x : HL (cServe : Ctr).as) => ([(14, 11, Ann.by [.keep 3, .keep 6, .one 8 (.row tyHandler), .one 9 (.row I64), .one 10 (.d I64), .keep 56, .keep 57, .one 58 (.d I64)] (fun s g => 0 ≤ g.2.2.2.1 ∧ g.2.2.2.1 ≤ x.1.length ∧ g.1 = (x.1.take g.2.2.2.1.toNat).map dec ∧ (x.1.take g.2.2.2.1.toNat).foldl wk1 (0, []) = (g.2.2.2.1, g.2.1) ∧ (g.2.1.length : Int) ≤ g.2.2.2.1 ∧ g.2.2.1 = nob (x.1.take g.2.2.2.1.toNat) x.2.1.2.1) (fun s g => (x.1.length - g.2.2.2.1).toNat))])) x) ([]) []
noncomputable def ks8 : List (Nat × Ctr) := (14, cServe) :: ks7
noncomputable def fx_serves (x : HL (cLaw : Ctr).as) : Fx := mkFx Try.prog env ks8 ([]) ([]) []
noncomputable def ks9 : List (Nat × Ctr) := (3, cLaw) :: ks8
noncomputable def fx_cloned (x : HL (cCloneD : Ctr).as) : Fx := mkFx Try.prog env ks9 ([]) ([]) []
noncomputable def ks10 : List (Nat × Ctr) := (49, cCloneD) :: ks9
noncomputable def fx_play (x : HL (cPlay : Ctr).as) : Fx := mkFx Try.prog env ks10 ((fun (x : HL (cPlay : Ctr).as) => ([(40, 9, Ann.by [.one 0 (.d (.sl tyHandler)), .keep 6, .one 8 (.row I64), .box 9 [.d tyTally], .keep 27, .one 28 (.d I64)] (fun s g => 0 ≤ g.2.2.2.1 ∧ g.2.2.2.1 ≤ x.2.1 ∧ g.1 = decN g.2.2.2.1 x.1 ∧ g.2.1 = wkN x.1 g.2.2.2.1.toNat ∧ g.2.2.1 = tal x.1 g.2.2.2.1 ∧ g.2.2.2.1 ≤ mx x.1 + 5 ∧ (g.2.1.length : Int) ≤ 16 * g.2.2.2.1) (fun s g => (x.2.1 - g.2.2.2.1).toNat))])) x) ([]) []
noncomputable def ks11 : List (Nat × Ctr) := (40, cPlay) :: ks10
noncomputable def fx_iplay (x : HL (cIPlay : Ctr).as) : Fx := mkFx Try.prog env ks11 ((fun (x : HL (cIPlay : Ctr).as) => ([(41, 3, Ann.by [.keep 0, .keep 1, .keep 6, .one 7 (.d I64), .keep 18, .keep 19, .one 20 (.d I64)] (fun s g => 0 ≤ g.2.1 ∧ g.2.1 ≤ x.1.length ∧ g.1 = mx (x.1.take g.2.1.toNat)) (fun s g => (x.1.length - g.2.1).toNat)),
  (41, 12, Ann.by [.keep 0, .keep 6, .keep 10, .one 11 (.row tyHandler), .keep 46, .keep 47, .one 48 (.d I64)] (fun s g => 0 ≤ g.2.1 ∧ g.2.1 ≤ x.1.length ∧ g.1 = decN (came x.1 x.2.1) (x.1.take g.2.1.toNat)) (fun s g => (x.1.length - g.2.1).toNat)),
  (41, 19, Ann.by [.keep 0, .keep 6, .keep 10, .keep 11, .one 14 (.row I64), .keep 67, .one 68 (.d I64)] (fun s g => 0 ≤ g.2.1 ∧ g.2.1 ≤ came x.1 x.2.1 ∧ g.1 = wkN x.1 g.2.1.toNat ∧ (g.1.length : Int) ≤ 16 * g.2.1) (fun s g => (came x.1 x.2.1 - g.2.1).toNat)),
  (41, 22, Ann.by [.keep 0, .keep 6, .keep 10, .keep 11, .one 14 (.row I64), .keep 15, .keep 67, .keep 68, .keep 71, .keep 72, .one 73 (.d I64)] (fun s g => 0 ≤ g.2.1 ∧ g.2.1 ≤ x.1.length ∧ g.1 = wkN x.1 (s.dat I64 68).toNat ++ (wj (s.dat I64 68) (x.1.take g.2.1.toNat)).2 ∧ (g.1.length : Int) ≤ 16 * (s.dat I64 68) + g.2.1) (fun s g => (x.1.length - g.2.1).toNat))])) x) ([]) []
noncomputable def ks12 : List (Nat × Ctr) := (41, cIPlay) :: ks11
noncomputable def fx_plays (x : HL (cLawP : Ctr).as) : Fx := mkFx Try.prog env ks12 ([]) ([]) []
noncomputable def ks13 : List (Nat × Ctr) := (10, cLawP) :: ks12
noncomputable def ksAll : List (Nat × Ctr) := ks13
end Go.Proofs.Ytmcepjbbbkgfcaa.Chainp
