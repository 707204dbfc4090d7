/-
 Each function keeps its contract.
-/
import Derived.Test.YtlnlichdidobpaaGreatDoorTtyPJ
namespace Go.Proofs.YtlnlichdidobpaaGreatDoor.Tty
open Go.Sx
set_option maxRecDepth 100000
attribute [local irreducible] vc Uo

theorem KS : eR Tryz.prog Vg := trivial
theorem cI : ar Tryz.prog pA := trivial
theorem ak : gg Tryz.prog = true := by kernel_rfl
theorem aq : Tryz.prog.follows .mixedOrders = true := by kernel_rfl
theorem Kv (x : HL (gq : ah).as) (hp : (gq : ah).pre x) (hl : aD (gq : ah).as x) : vc (rN x) 1 88 Tryz.f88 (gq) x := by
 rw [Az]
 exact G6 x hp hl
theorem Gu : eR Tryz.prog Vw := KS
theorem KU : aX Tryz.prog 88 (gq) :=
 av (c := gq) (fn := Tryz.f88) (X := rN) (n := 1) (fun _ => er ba aq ak cI KS) Tryz.func88 (by kernel_rfl) (by kernel_rfl) (of_decide_eq_true (by kernel_rfl)) Kv
theorem cJ : ar Tryz.prog pn := ⟨KU, cI⟩
theorem Tb (x : HL (tq : ah).as) (hp : (tq : ah).pre x) (hl : aD (tq : ah).as x) : Uo (DB x) 3 119 120 Tryz.f119 (tq) x := by
 rw [JY]
 exact T1 x hp hl
theorem UY : wH Tryz.prog 119 120 (tq) :=
 Dv (c := tq) (fn := Tryz.f119) (X := DB) (n := 3) (fun _ => er ba aq ak cJ Gu) Tryz.func119 (by kernel_rfl) (by kernel_rfl) (of_decide_eq_true (by kernel_rfl)) Tb
theorem cR : ar Tryz.prog p5 := cJ
theorem JW : eR Tryz.prog Vh := ⟨UY, Gu⟩
theorem iU (x : HL (aJ : ah).as) (hp : (aJ : ah).pre x) (hl : aD (aJ : ah).as x) : vc (bQ x) 1 86 Tryz.f86 (aJ) x := by
 rw [dK]
 exact iW x hp hl
theorem Jl : eR Tryz.prog VD := JW
theorem iX : aX Tryz.prog 86 (aJ) :=
 av (c := aJ) (fn := Tryz.f86) (X := bQ) (n := 1) (fun _ => er ba aq ak cR JW) Tryz.func86 (by kernel_rfl) (by kernel_rfl) (of_decide_eq_true (by kernel_rfl)) iU
theorem eO : ar Tryz.prog tK := ⟨iX, cR⟩
theorem BR (x : HL (dV : ah).as) (hp : (dV : ah).pre x) (hl : aD (dV : ah).as x) : vc (mm x) 2 63 Tryz.f63 (dV) x := by
 rw [sn]
 exact C3 x hp hl
theorem IZ : eR Tryz.prog Vl := Jl
theorem Cc : aX Tryz.prog 63 (dV) :=
 av (c := dV) (fn := Tryz.f63) (X := mm) (n := 2) (fun _ => er ba aq ak eO Jl) Tryz.func63 (by kernel_rfl) (by kernel_rfl) (of_decide_eq_true (by kernel_rfl)) BR
theorem kK : ar Tryz.prog DZ := ⟨Cc, eO⟩
theorem T7 (x : HL (tr : ah).as) (hp : (tr : ah).pre x) (hl : aD (tr : ah).as x) : vc (Db x) 1 87 Tryz.f87 (tr) x := by
 rw [Lo]
 exact UA x hp hl
theorem I7 : eR Tryz.prog Vz := IZ
theorem TB : aX Tryz.prog 87 (tr) :=
 av (c := tr) (fn := Tryz.f87) (X := Db) (n := 1) (fun _ => er ba aq ak kK IZ) Tryz.func87 (by kernel_rfl) (by kernel_rfl) (of_decide_eq_true (by kernel_rfl)) T7
theorem nv : ar Tryz.prog Lp := ⟨TB, kK⟩
theorem JR (x : HL (b7 : ah).as) (hp : (b7 : ah).pre x) (hl : aD (b7 : ah).as x) : vc (se x) 1 88 Tryz.f88 (b7) x := by
 rw [Bf]
 exact GR x hp hl
theorem La : eR Tryz.prog Vi := I7
theorem Hf : aX Tryz.prog 88 (b7) :=
 av (c := b7) (fn := Tryz.f88) (X := se) (n := 1) (fun _ => er ba aq ak nv I7) Tryz.func88 (by kernel_rfl) (by kernel_rfl) (of_decide_eq_true (by kernel_rfl)) JR
theorem nX : ar Tryz.prog GN := ⟨Hf, nv⟩
theorem Iy (x : HL (gu : ah).as) (hp : (gu : ah).pre x) (hl : aD (gu : ah).as x) : vc (rX x) 1 139 Tryz.f139 (gu) x := by
 rw [Bs]
 exact Lm x hp hl
theorem IV : eR Tryz.prog Vn := La
theorem KH : aX Tryz.prog 139 (gu) :=
 av (c := gu) (fn := Tryz.f139) (X := rX) (n := 1) (fun _ => er ba aq ak nX La) Tryz.func139 (by kernel_rfl) (by kernel_rfl) (of_decide_eq_true (by kernel_rfl)) Iy
theorem pU : ar Tryz.prog Lt := ⟨KH, nX⟩
theorem K5 (x : HL (b7 : ah).as) (hp : (b7 : ah).pre x) (hl : aD (b7 : ah).as x) : vc (sH x) 1 30 Tryz.f30 (b7) x := by
 rw [Be]
 exact Kg x hp hl
theorem Ln : eR Tryz.prog VE := IV
theorem J8 : aX Tryz.prog 30 (b7) :=
 av (c := b7) (fn := Tryz.f30) (X := sH) (n := 1) (fun _ => er ba aq ak pU IV) Tryz.func30 (by kernel_rfl) (by kernel_rfl) (of_decide_eq_true (by kernel_rfl)) K5
theorem vp : ar Tryz.prog Rs := ⟨J8, pU⟩
theorem Se (x : HL (na : ah).as) (hp : (na : ah).pre x) (hl : aD (na : ah).as x) : vc (yn x) 1 118 Tryz.f118 (na) x := by
 rw [EU]
 exact Rv x hp hl
theorem R2 : eR Tryz.prog VQ := Ln
theorem RX : aX Tryz.prog 118 (na) :=
 av (c := na) (fn := Tryz.f118) (X := yn) (n := 1) (fun _ => er ba aq ak vp Ln) Tryz.func118 (by kernel_rfl) (by kernel_rfl) (of_decide_eq_true (by kernel_rfl)) Se
theorem wc : ar Tryz.prog RQ := ⟨RX, vp⟩
theorem UB (x : HL (wK : ah).as) (hp : (wK : ah).pre x) (hl : aD (wK : ah).as x) : vc (Cu x) 2 85 Tryz.f85 (wK) x := by
 rw [Jh]
 exact UI x hp hl
theorem Vb : aX Tryz.prog 85 (wK) :=
 av (c := wK) (fn := Tryz.f85) (X := Cu) (n := 2) (fun _ => er ba aq ak wc R2) Tryz.func85 (by kernel_rfl) (by kernel_rfl) (of_decide_eq_true (by kernel_rfl)) UB
theorem tU : ar Tryz.prog FV := ⟨Vb, wc⟩
theorem cr : ar Tryz.prog dY := tU
end Go.Proofs.YtlnlichdidobpaaGreatDoor.Tty
