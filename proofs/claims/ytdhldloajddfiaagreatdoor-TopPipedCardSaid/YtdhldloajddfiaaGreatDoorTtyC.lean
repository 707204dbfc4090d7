/-
 TtyTells, TtyTypes: what each function computes (its contract), and what its loops keep.
-/
import Derived.Test.YtdhldloajddfiaaGreatDoorEnv
import Derived.Test.YtdhldloajddfiaaGreatDoorSxP4
namespace Go.Proofs.YtdhldloajddfiaaGreatDoor.Tty
open Go.Sx
set_option maxRecDepth 100000
set_option linter.unusedVariables false

abbrev By := List Int
abbrev TT := List By × By
def lineOk (l : By) : Bool := decide ((l.length : Int) ≤ 65)
def rightT (t : TT) : Bool := decide ((t.2.length : Int) ≤ 64) && decide ((t.1.length : Int) ≤ 400) && t.1.all lineOk
def dropSp (l : By) : Nat → Nat
 | 0 => 0
 | n + 1 => if l.getD n 0 = 32 then dropSp l n else n + 1
def dropWd (l : By) : Nat → Nat
 | 0 => 0
 | n + 1 => if l.getD n 0 = 32 then n + 1 else dropWd l n
def wordN (l : By) : Nat := dropWd l (dropSp l l.length)
def lastN (l : By) (b : Int) : Nat → Int
 | 0 => -1
 | n + 1 => if l.getD n 0 = b then (n : Int) else lastN l b n
def keyT (t : TT) (b : Int) : TT × Int :=
 if rightT t = false then (([], []), 1)
 else if b = 10 then (if t.1.length = 400 then (([], []), 4) else ((t.1 ++ [t.2 ++ [10]], []), 0))
 else if b = 4 then (if t.1.length = 400 then (([], []), 4) else ((t.1 ++ [t.2], []), 0))
 else if b = 8 then ((t.1, t.2.take (t.2.length - 1)), 0)
 else if b = 21 then ((t.1, []), 0)
 else if b = 23 then ((t.1, t.2.take (wordN t.2)), 0)
 else if t.2.length = 64 then (([], []), 4) else ((t.1, t.2 ++ [b]), 0)
def keyR (t : TT) (b : Int) : TT × Int × Unit := ((keyT t b).1, (keyT t b).2, ())
def readT (t : TT) (m : Int) : TT × By × Int × Unit :=
 if rightT t = false then (([], []), [], 1, ())
 else if m < 1 then (([], []), [], 2, ())
 else match t.1 with
  | [] => (([], []), [], 7, ())
  | l :: r => if (l.length : Int) ≤ m then ((r, t.2), l, 0, ()) else ((l.drop m.toNat :: r, t.2), l.take m.toNat, 0, ())
def typ (ks : By) : TT := ks.foldl (fun t b => if (keyT t b).2 = 0 then (keyT t b).1 else t) ([], [])
@[reducible] def cCloneB : Ctr := ⟨[.sl U8], [.sl U8], fun x => x.1.length ≤ 140737488355328, fun x => (x.1, ()), false⟩
@[reducible] def cCloneO : Ctr := ⟨[.sl U8], [.sl U8], fun x => x.1.length ≤ 140737488355328, fun x => (x.1, ()), true⟩
@[reducible] def cCloneL : Ctr := ⟨[.sl (.sl U8)], [.sl (.sl U8)], fun x => x.1.length * 24 ≤ 140737488355328, fun x => (x.1, ()), true⟩
@[reducible] def cAny : Ctr := ⟨[.sl (.sl U8)], [.bool], fun _ => True, fun x => (!(x.1.all lineOk), ()), false⟩
@[reducible] def cRight : Ctr := ⟨[tyTty], [.bool], fun _ => True, fun x => (rightT x.1, ()), false⟩
@[reducible] def cOwn : Ctr := ⟨[tyTty], [tyTty], fun x => rightT x.1 = true, fun x => (x.1, ()), false⟩
@[reducible] def cRead : Ctr := ⟨[tyTty, I64], [tyTty, .sl U8, I64], fun _ => True, fun x => readT x.1 x.2.1, false⟩
@[reducible] def cWord : Ctr := ⟨[.sl U8], [I64], fun _ => True, fun x => ((wordN x.1 : Int), ()), false⟩
@[reducible] def cKey : Ctr := ⟨[tyTty, U8], [tyTty, I64], fun _ => True, fun x => keyR x.1 x.2.1, false⟩
@[reducible] def cSuf : Ctr := ⟨[.str, .str], [.bool], fun _ => True, fun x => (decide (x.2.1.length ≤ x.1.length) && decide (x.1.drop (x.1.length - x.2.1.length) = x.2.1), ()), false⟩
@[reducible] def cLast : Ctr := ⟨[.str, U8], [I64], fun _ => True, fun x => (lastN x.1 x.2.1 x.1.length, ()), false⟩
@[reducible] def cSame : Ctr := ⟨[tyTty, tyTty], [.bool], fun _ => True, fun x => (decide (x.1 = x.2.1), ()), false⟩
@[reducible] def cType : Ctr := ⟨[.sl U8], [tyTty], fun _ => True, fun x => (typ x.1, ()), false⟩
@[reducible] def cTells : Ctr := ⟨[tyTty, U8, I64], [.bool], fun _ => True, fun _ => (true, ()), false⟩
@[reducible] def cTypes : Ctr := ⟨[.sl U8], [.bool], fun _ => True, fun _ => (true, ()), false⟩


noncomputable def ks0 : List (Nat × Ctr) := []
noncomputable def kf0 : List (Nat × Nat × Ctr) := []
noncomputable def fx_cloneb (x : HL (cCloneB : Ctr).as) : Fx := mkFxF Tryz.prog env ks0 kf0 ([]) ([]) []
noncomputable def ks1 : List (Nat × Ctr) := (19, cCloneB) :: ks0
noncomputable def kf1 : List (Nat × Nat × Ctr) := kf0
noncomputable def fx_any (x : HL (cAny : Ctr).as) : Fx := mkFxF Tryz.prog env ks1 kf1 ((fun (x : HL (cAny : Ctr).as) => ([(52, 2, Ann.by [.keep 0, .keep 1, .keep 7, .one 8 (.d I64)] (fun s g => 0 ≤ g.1 ∧ g.1 ≤ x.1.length ∧ (x.1.take g.1.toNat).all lineOk = true) (fun s g => (x.1.length - g.1).toNat))])) x) ([]) []
noncomputable def ks2 : List (Nat × Ctr) := ks1
noncomputable def kf2 : List (Nat × Nat × Ctr) := (35, 36, cAny) :: kf1
noncomputable def fx_right (x : HL (cRight : Ctr).as) : Fx := mkFxF Tryz.prog env ks2 kf2 ([]) ([]) []
noncomputable def ks3 : List (Nat × Ctr) := (17, cRight) :: ks2
noncomputable def kf3 : List (Nat × Nat × Ctr) := kf2
noncomputable def fx_read (x : HL (cRead : Ctr).as) : Fx := mkFxF Tryz.prog env ks3 kf3 ((fun (x : HL (cRead : Ctr).as) => ([(18, 3, Ann.by [.bk, .keep 2, .box 3 [.row (.sl U8), .keep], .keep 11, .keep 12, .one 13 (.d I64)] (fun s g => 0 ≤ g.2.1 ∧ g.2.1 ≤ x.1.1.length ∧ g.1.1 = x.1.1.take g.2.1.toNat) (fun s g => (x.1.1.length - g.2.1).toNat))])) x) ([]) []
noncomputable def ks4 : List (Nat × Ctr) := (8, cRead) :: ks3
noncomputable def kf4 : List (Nat × Nat × Ctr) := kf3
noncomputable def fx_own (x : HL (cOwn : Ctr).as) : Fx := mkFxF Tryz.prog env ks4 kf4 ((fun (x : HL (cOwn : Ctr).as) => ([(18, 3, Ann.by [.keep 2, .box 3 [.row (.sl U8), .keep], .keep 11, .keep 12, .one 13 (.d I64)] (fun s g => 0 ≤ g.2.1 ∧ g.2.1 ≤ x.1.1.length ∧ g.1.1 = x.1.1.take g.2.1.toNat) (fun s g => (x.1.1.length - g.2.1).toNat))])) x) ([]) []
noncomputable def ks5 : List (Nat × Ctr) := (18, cOwn) :: ks4
noncomputable def kf5 : List (Nat × Nat × Ctr) := kf4
noncomputable def fx_cloneo (x : HL (cCloneO : Ctr).as) : Fx := mkFxF Tryz.prog env ks5 kf5 ([]) ([]) []
noncomputable def ks6 : List (Nat × Ctr) := (19, cCloneO) :: ks5
noncomputable def kf6 : List (Nat × Nat × Ctr) := kf5
noncomputable def fx_clonel (x : HL (cCloneL : Ctr).as) : Fx := mkFxF Tryz.prog env ks6 kf6 ([]) ([]) []
noncomputable def ks7 : List (Nat × Ctr) := (51, cCloneL) :: ks6
noncomputable def kf7 : List (Nat × Nat × Ctr) := kf6
noncomputable def fx_cloney (x : HL (cCloneO : Ctr).as) : Fx := mkFxF Tryz.prog env ks7 kf7 ([]) ([]) []
noncomputable def ks8 : List (Nat × Ctr) := (11, cCloneO) :: ks7
noncomputable def kf8 : List (Nat × Nat × Ctr) := kf7
noncomputable def fx_word (x : HL (cWord : Ctr).as) : Fx := mkFxF Tryz.prog env ks8 kf8 ((fun (x : HL (cWord : Ctr).as) => ([(34, 2, Ann.by [.keep 0, .one 3 (.d I64)] (fun s g => 0 ≤ g.1 ∧ g.1 ≤ x.1.length ∧ dropSp x.1 g.1.toNat = dropSp x.1 x.1.length) (fun s g => g.1.toNat)),
 (34, 4, Ann.by [.keep 0, .one 3 (.d I64)] (fun s g => 0 ≤ g.1 ∧ g.1 ≤ x.1.length ∧ dropWd x.1 g.1.toNat = wordN x.1) (fun s g => g.1.toNat))])) x) ([]) []
noncomputable def ks9 : List (Nat × Ctr) := (34, cWord) :: ks8
noncomputable def kf9 : List (Nat × Nat × Ctr) := kf8
noncomputable def fx_key (x : HL (cKey : Ctr).as) : Fx := mkFxF Tryz.prog env ks9 kf9 ([]) ([]) [(33,3000017)]
noncomputable def ks10 : List (Nat × Ctr) := (15, cKey) :: ks9
noncomputable def kf10 : List (Nat × Nat × Ctr) := kf9
noncomputable def fx_type (x : HL (cType : Ctr).as) : Fx := mkFxF Tryz.prog env ks10 kf10 ((fun (x : HL (cType : Ctr).as) => ([(6, 3, Ann.by [.keep 2, .box 3 [.d tyTty], .keep 8, .keep 9, .one 10 (.d I64)] (fun s g => 0 ≤ g.2.1 ∧ g.2.1 ≤ x.1.length ∧ g.1 = typ (x.1.take g.2.1.toNat)) (fun s g => (x.1.length - g.2.1).toNat))])) x) ([]) []
noncomputable def ks11 : List (Nat × Ctr) := (6, cType) :: ks10
noncomputable def kf11 : List (Nat × Nat × Ctr) := kf10
noncomputable def ksAll : List (Nat × Ctr) := ks11
end Go.Proofs.YtdhldloajddfiaaGreatDoor.Tty
