/-
 TtyTells, TtyTypes: what each function computes (its contract), and what its loops keep.
-/
import Derived.Test.YtlnlichdidobpaaGreatDoorEnv
import Derived.Test.YtlnlichdidobpaaGreatDoorSxP4
namespace Go.Proofs.YtlnlichdidobpaaGreatDoor.Tty
open Go.Sx
set_option maxRecDepth 100000
set_option linter.unusedVariables false

abbrev By := List Int
abbrev TT := List By × By
def fF (l : By) : Bool := decide ((l.length : Int) ≤ 65)
def aO (t : TT) : Bool := decide ((t.2.length : Int) ≤ 64) && decide ((t.1.length : Int) ≤ 400) && t.1.all fF
def ew (l : By) : Nat → Nat
 | 0 => 0
 | n + 1 => if l.getD n 0 = 32 then ew l n else n + 1
def gJ (l : By) : Nat → Nat
 | 0 => 0
 | n + 1 => if l.getD n 0 = 32 then n + 1 else gJ l n
def lQ (l : By) : Nat := gJ l (ew l l.length)
def ph (t : TT) (b : Int) : TT × Int :=
 if aO t = false then (([], []), 1)
 else if b = 10 then (if t.1.length = 400 then (([], []), 4) else ((t.1 ++ [t.2 ++ [10]], []), 0))
 else if b = 4 then (if t.1.length = 400 then (([], []), 4) else ((t.1 ++ [t.2], []), 0))
 else if b = 8 then ((t.1, t.2.take (t.2.length - 1)), 0)
 else if b = 21 then ((t.1, []), 0)
 else if b = 23 then ((t.1, t.2.take (lQ t.2)), 0)
 else if t.2.length = 64 then (([], []), 4) else ((t.1, t.2 ++ [b]), 0)
def kj (t : TT) (b : Int) : TT × Int × Unit := ((ph t b).1, (ph t b).2, ())
def bW (t : TT) (m : Int) : TT × By × Int × Unit :=
 if aO t = false then (([], []), [], 1, ())
 else if m < 1 then (([], []), [], 2, ())
 else match t.1 with
  | [] => (([], []), [], 7, ())
  | l :: r => if (l.length : Int) ≤ m then ((r, t.2), l, 0, ()) else ((l.drop m.toNat :: r, t.2), l.take m.toNat, 0, ())
@[reducible] def gq : ah := ⟨[.sl U8], [.sl U8], fun x => x.1.length ≤ 140737488355328, fun x => (x.1, ()), false⟩
@[reducible] def b7 : ah := ⟨[.sl U8], [.sl U8], fun x => x.1.length ≤ 140737488355328, fun x => (x.1, ()), true⟩
@[reducible] def gu : ah := ⟨[.sl (.sl U8)], [.sl (.sl U8)], fun x => x.1.length * 24 ≤ 140737488355328, fun x => (x.1, ()), true⟩
@[reducible] def tq : ah := ⟨[.sl (.sl U8)], [.bool], fun _ => True, fun x => (!(x.1.all fF), ()), false⟩
@[reducible] def aJ : ah := ⟨[sM], [.bool], fun _ => True, fun x => (aO x.1, ()), false⟩
@[reducible] def tr : ah := ⟨[sM], [sM], fun x => aO x.1 = true, fun x => (x.1, ()), false⟩
@[reducible] def dV : ah := ⟨[sM, dU], [sM, .sl U8, dU], fun _ => True, fun x => bW x.1 x.2.1, false⟩
@[reducible] def na : ah := ⟨[.sl U8], [dU], fun _ => True, fun x => ((lQ x.1 : Int), ()), false⟩
@[reducible] def wK : ah := ⟨[sM, U8], [sM, dU], fun _ => True, fun x => kj x.1 x.2.1, false⟩
noncomputable def pA : List (Nat × ah) := []
noncomputable def Vg : List (Nat × Nat × ah) := []
noncomputable def rN (x : HL (gq : ah).as) : Fx := nJ Tryz.prog env pA Vg ([]) ([]) []
noncomputable def pn : List (Nat × ah) := (88, gq) :: pA
noncomputable def Vw : List (Nat × Nat × ah) := Vg
noncomputable def DB (x : HL (tq : ah).as) : Fx := nJ Tryz.prog env pn Vw ((fun (x : HL (tq : ah).as) => ([(140, 2, jz.by [.keep 0, .keep 1, .keep 7, .one 8 (.d dU)] (fun s g => 0 ≤ g.1 ∧ g.1 ≤ x.1.length ∧ (x.1.take g.1.toNat).all fF = true) (fun s g => (x.1.length - g.1).toNat))])) x) ([]) []
noncomputable def p5 : List (Nat × ah) := pn
noncomputable def Vh : List (Nat × Nat × ah) := (119, 120, tq) :: Vw
noncomputable def bQ (x : HL (aJ : ah).as) : Fx := nJ Tryz.prog env p5 Vh ([]) ([]) []
noncomputable def tK : List (Nat × ah) := (86, aJ) :: p5
noncomputable def VD : List (Nat × Nat × ah) := Vh
noncomputable def mm (x : HL (dV : ah).as) : Fx := nJ Tryz.prog env tK VD ((fun (x : HL (dV : ah).as) => ([(87, 3, jz.by [.bk, .keep 2, .box 3 [.row (.sl U8), .keep], .keep 11, .keep 12, .one 13 (.d dU)] (fun s g => 0 ≤ g.2.1 ∧ g.2.1 ≤ x.1.1.length ∧ g.1.1 = x.1.1.take g.2.1.toNat) (fun s g => (x.1.1.length - g.2.1).toNat))])) x) ([]) []
noncomputable def DZ : List (Nat × ah) := (63, dV) :: tK
noncomputable def Vl : List (Nat × Nat × ah) := VD
noncomputable def Db (x : HL (tr : ah).as) : Fx := nJ Tryz.prog env DZ Vl ((fun (x : HL (tr : ah).as) => ([(87, 3, jz.by [.keep 2, .box 3 [.row (.sl U8), .keep], .keep 11, .keep 12, .one 13 (.d dU)] (fun s g => 0 ≤ g.2.1 ∧ g.2.1 ≤ x.1.1.length ∧ g.1.1 = x.1.1.take g.2.1.toNat) (fun s g => (x.1.1.length - g.2.1).toNat))])) x) ([]) []
noncomputable def Lp : List (Nat × ah) := (87, tr) :: DZ
noncomputable def Vz : List (Nat × Nat × ah) := Vl
noncomputable def se (x : HL (b7 : ah).as) : Fx := nJ Tryz.prog env Lp Vz ([]) ([]) []
noncomputable def GN : List (Nat × ah) := (88, b7) :: Lp
noncomputable def Vi : List (Nat × Nat × ah) := Vz
noncomputable def rX (x : HL (gu : ah).as) : Fx := nJ Tryz.prog env GN Vi ([]) ([]) []
noncomputable def Lt : List (Nat × ah) := (139, gu) :: GN
noncomputable def Vn : List (Nat × Nat × ah) := Vi
noncomputable def sH (x : HL (b7 : ah).as) : Fx := nJ Tryz.prog env Lt Vn ([]) ([]) []
noncomputable def Rs : List (Nat × ah) := (30, b7) :: Lt
noncomputable def VE : List (Nat × Nat × ah) := Vn
noncomputable def yn (x : HL (na : ah).as) : Fx := nJ Tryz.prog env Rs VE ((fun (x : HL (na : ah).as) => ([(118, 2, jz.by [.keep 0, .one 3 (.d dU)] (fun s g => 0 ≤ g.1 ∧ g.1 ≤ x.1.length ∧ ew x.1 g.1.toNat = ew x.1 x.1.length) (fun s g => g.1.toNat)),
 (118, 4, jz.by [.keep 0, .one 3 (.d dU)] (fun s g => 0 ≤ g.1 ∧ g.1 ≤ x.1.length ∧ gJ x.1 g.1.toNat = lQ x.1) (fun s g => g.1.toNat))])) x) ([]) []
noncomputable def RQ : List (Nat × ah) := (118, na) :: Rs
noncomputable def VQ : List (Nat × Nat × ah) := VE
noncomputable def Cu (x : HL (wK : ah).as) : Fx := nJ Tryz.prog env RQ VQ ([]) ([]) [(117,3000017)]
noncomputable def FV : List (Nat × ah) := (85, wK) :: RQ
noncomputable def dY : List (Nat × ah) := FV
end Go.Proofs.YtlnlichdidobpaaGreatDoor.Tty
