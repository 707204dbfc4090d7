/-
 ApicTells: what each function computes (its contract), and what its loops keep.
-/
import Derived.Test.YtlnlichdidobpaaGreatDoorEnv
import Derived.Test.YtlnlichdidobpaaGreatDoorSxP4
import Derived.Lib.BitFns
import Derived.Lib.TrailingZeros
namespace Go.Proofs.YtlnlichdidobpaaGreatDoor.Apic
open Go.Sx
set_option maxRecDepth 100000
set_option linter.unusedVariables false

def cB (b : List Int) (n : Nat) : Bool := decide (b.getD (n / 64) 0 / 2 ^ (n % 64) % 2 = 1)
def TF (f : Nat → Bool) (s : Nat) : Nat → Int
 | 0 => 0
 | k + 1 => (if f s = true then 1 else 0) + 2 * TF f (s + 1) k
def ue (f : Nat → Bool) (m j : Nat) : Int := TF f (max (64 * j) m) (64 * (j + 1) - max (64 * j) m)
def CC (f : Nat → Bool) (m : Nat) : List Int := [ue f m 0, ue f m 1, ue f m 2, ue f m 3]
def uL (f : Nat → Bool) : Nat → Int
 | 0 => -1
 | m + 1 => if f m = true then (m : Int) else uL f m
def fP (f : Nat → Bool) (n : Nat) : Nat → Int
 | 0 => -1
 | k + 1 => if f n = true then (n : Int) else fP f (n + 1) k
def kq (f : Nat → Bool) (m : Nat) : List Int := ((List.range m).filter f).map Int.ofNat
def fits (n : Int) : Bool := decide (0 ≤ n) && decide (n < 256)
def nn (b : List Int) (n : Int) (v : Bool) : List Int := if fits n = true then CC (fun i => if i = n.toNat then v else cB b i) 0 else b
def cG (b : List Int) : Int := uL (cB b) 256
def aL (b : List Int) (n : Int) : Int := if fits (max n 0) = true then fP (cB b) (max n 0).toNat (256 - (max n 0).toNat) else -1
def cQ (b : List Int) : List Int := kq (cB b) 256
@[reducible] def T0 : ah := ⟨[Ge], [dU], fun _ => True, fun x => ((Lib.bitLen x.1.toNat : Int), ()), false⟩
@[reducible] def ou : ah := ⟨[Ge], [dU], fun _ => True, fun x => (64 - (Lib.bitLen x.1.toNat : Int), ()), false⟩
@[reducible] def VF : ah := ⟨[Ge], [dU], fun _ => True, fun x => ((Lib.ctz 64 x.1.toNat : Int), ()), false⟩
@[reducible] def n9 : ah := ⟨[dU], [.bool], fun _ => True, fun x => (fits x.1, ()), false⟩
@[reducible] def nG : ah := ⟨[.arr 4 Ge, dU], [.arr 4 Ge], fun _ => True, fun x => (nn x.1 x.2.1 true, ()), false⟩
@[reducible] def eL : ah := ⟨[.arr 4 Ge, dU], [.arr 4 Ge], fun _ => True, fun x => (nn x.1 x.2.1 false, ()), false⟩
@[reducible] def tw : ah := ⟨[.arr 4 Ge], [dU], fun _ => True, fun x => (cG x.1, ()), false⟩
@[reducible] def mZ : ah := ⟨[.arr 4 Ge, dU], [dU], fun _ => True, fun x => (aL x.1 x.2.1, ()), false⟩
abbrev LC := List Int × List Int × Int
def zP (last : Int) : List Int → Bool
 | [] => true
 | n :: r => !(decide (n / 16 = last)) && !(decide (n < 32)) && zP (n / 16) r
def posOf (b : List Int) (n : Int) : Nat := if n < 0 then (cQ b).length else (kq (cB b) n.toNat).length
def D6 (l : LC) : Bool := decide (0 ≤ l.2.2) && decide (l.2.2 ≤ 15)
def dP (l : LC) : Bool := zP (-1) (cQ l.2.1) && (D6 l && (cQ l.1).all (fun n => decide (32 ≤ n)))
def lvl (l : LC) : Int := max l.2.2 (max (cG l.2.1) 0 / 16)
def dj (l : LC) : Int := if dP l = true ∧ 0 ≤ cG l.1 ∧ lvl l < cG l.1 / 16 then cG l.1 else -1
def xS : LC := ([0, 0, 0, 0], [0, 0, 0, 0], 0)
def aW (l : LC) (o : Int × Int) : LC × Int × Int × Unit :=
 if dP l = false then (xS, 0, 1, ())
 else if o.1 = 1 then (if o.2 < 32 ∨ 256 ≤ o.2 then (xS, 0, 2, ()) else ((nn l.1 o.2 true, l.2.1, l.2.2), -1, 0, ()))
 else if o.1 = 2 then (if dj l < 0 then (xS, 0, 7, ()) else ((nn l.1 (dj l) false, nn l.2.1 (dj l) true, l.2.2), dj l, 0, ()))
 else if o.1 = 3 then (if cG l.2.1 < 0 then (xS, 0, 3, ()) else ((l.1, nn l.2.1 (cG l.2.1) false, l.2.2), cG l.2.1, 0, ()))
 else if o.1 = 4 then (if o.2 < 0 ∨ 15 < o.2 then (xS, 0, 2, ()) else ((l.1, l.2.1, o.2), -1, 0, ()))
 else (xS, 0, 5, ())
@[reducible] def jB : ah := ⟨[dU], [dU], fun x => 0 ≤ x.1, fun x => (x.1 / 16, ()), false⟩
@[reducible] def fD : ah := ⟨[oO], [.bool], fun _ => True, fun x => (dP x.1, ()), false⟩
@[reducible] def uE : ah := ⟨[oO], [dU], fun _ => True, fun x => (lvl x.1, ()), false⟩
@[reducible] def j4 : ah := ⟨[oO], [dU], fun _ => True, fun x => (dj x.1, ()), false⟩
@[reducible] def bg : ah := ⟨[oO, E4], [oO, dU, dU], fun _ => True, fun x => aW x.1 x.2.1, false⟩
noncomputable def pA : List (Nat × ah) := []
noncomputable def pn : List (Nat × ah) := (42, T0) :: pA
noncomputable def ye (x : HL (ou : ah).as) : Fx := fX Tryz.prog env pn ([]) ([]) []
noncomputable def p5 : List (Nat × ah) := (135, ou) :: pn
noncomputable def tK : List (Nat × ah) := (142, VF) :: p5
noncomputable def y5 (x : HL (n9 : ah).as) : Fx := fX Tryz.prog env tK ([]) ([]) []
noncomputable def DZ : List (Nat × ah) := (134, n9) :: tK
noncomputable def yK (x : HL (nG : ah).as) : Fx := fX Tryz.prog env DZ ([]) ([]) []
noncomputable def Lp : List (Nat × ah) := (111, nG) :: DZ
noncomputable def qc (x : HL (eL : ah).as) : Fx := fX Tryz.prog env Lp ([]) ([]) []
noncomputable def GN : List (Nat × ah) := (112, eL) :: Lp
noncomputable def C5 (x : HL (tw : ah).as) : Fx := fX Tryz.prog env GN ((fun (x : HL (tw : ah).as) => ([(113, 2, jz.by [.box 1 [.d (.arr 4 Ge)], .one 3 (.d dU)] (fun s g => -1 ≤ g.2.1 ∧ g.2.1 ≤ 3 ∧ g.1 = x.1 ∧ cG x.1 = uL (cB x.1) (64 * (g.2.1 + 1).toNat)) (fun s g => (g.2.1 + 1).toNat))])) x) ([]) []
noncomputable def Lt : List (Nat × ah) := (113, tw) :: GN
noncomputable def zx (x : HL (mZ : ah).as) : Fx := fX Tryz.prog env Lt ((fun (x : HL (mZ : ah).as) => ([(133, 6, jz.by [.box 2 [.d (.arr 4 Ge)], .one 5 (.d dU)] (fun s g => 0 ≤ g.2.1 ∧ g.2.1 ≤ 4 ∧ aL x.1 x.2.1 = fP (cB g.1) (64 * g.2.1.toNat) (64 * (4 - g.2.1).toNat)) (fun s g => (4 - g.2.1).toNat))])) x) ([]) []
noncomputable def Rs : List (Nat × ah) := (133, mZ) :: Lt
noncomputable def uA (x : HL (jB : ah).as) : Fx := fX Tryz.prog env Rs ([]) ([]) []
noncomputable def RQ : List (Nat × ah) := (115, jB) :: Rs
noncomputable def bQ (x : HL (fD : ah).as) : Fx := fX Tryz.prog env RQ ((fun (x : HL (fD : ah).as) => ([(110, 3, jz.by [.box 1 [.d oO], .one 3 (.d dU), .one 4 (.d dU)] (fun s g => g.1 = x.1 ∧ -1 ≤ g.2.2.1 ∧ g.2.2.1 ≤ 255 ∧ (g.2.2.1 = -1 ∨ cB x.1.2.1 g.2.2.1.toNat = true) ∧ zP (-1) (cQ x.1.2.1) = zP g.2.1 ((cQ x.1.2.1).drop (posOf x.1.2.1 g.2.2.1))) (fun s g => (256 - (if g.2.2.1 = -1 then 256 else g.2.2.1)).toNat))])) x) ([]) []
noncomputable def FV : List (Nat × ah) := (110, fD) :: RQ
noncomputable def wP (x : HL (uE : ah).as) : Fx := fX Tryz.prog env FV ([]) ([]) []
noncomputable def RW : List (Nat × ah) := (116, uE) :: FV
noncomputable def uU (x : HL (j4 : ah).as) : Fx := fX Tryz.prog env RW ([]) ([]) []
noncomputable def SH : List (Nat × ah) := (84, j4) :: RW
noncomputable def uH (x : HL (bg : ah).as) : Fx := fX Tryz.prog env SH ([]) ([]) []
noncomputable def TU : List (Nat × ah) := (82, bg) :: SH
noncomputable def dY : List (Nat × ah) := TU
end Go.Proofs.YtlnlichdidobpaaGreatDoor.Apic
