/-
 Each function keeps its contract.
-/
import Derived.Test.YtlnlichdidobpaaGreatDoorBenchPJ
import Derived.Test.YtlnlichdidobpaaGreatDoorBenchHJ
namespace Go.Proofs.YtlnlichdidobpaaGreatDoor.Bench
open Go.Sx
set_option maxRecDepth 100000
attribute [local irreducible] vc

theorem cI : ar Tryz.prog pA := trivial
theorem ak : gg Tryz.prog = true := by kernel_rfl
theorem aq : Tryz.prog.follows .mixedOrders = true := by kernel_rfl
theorem cJ : ar Tryz.prog pn := ⟨SF, cI⟩
theorem cR : ar Tryz.prog p5 := ⟨Sa, cJ⟩
theorem eO : ar Tryz.prog tK := ⟨U5, cR⟩
theorem Ol (x : HL (jA : ah).as) (hp : (jA : ah).pre x) (hl : aD (jA : ah).as x) : vc (uM x) 1 57 Tryz.f57 (jA) x := by
 rw [C7]
 exact L0 x hp hl
theorem Oq : aX Tryz.prog 57 (jA) :=
 av (c := jA) (fn := Tryz.f57) (X := uM) (n := 1) (fun _ => aP ba aq ak eO) Tryz.func57 (by kernel_rfl) (by kernel_rfl) (of_decide_eq_true (by kernel_rfl)) Ol
theorem kK : ar Tryz.prog DZ := ⟨Oq, eO⟩
theorem Sz (x : HL (og : ah).as) (hp : (og : ah).pre x) (hl : aD (og : ah).as x) : vc (zH x) 2 59 Tryz.f59 (og) x := by
 rw [FH]
 exact SA x hp hl
theorem Rw : aX Tryz.prog 59 (og) :=
 av (c := og) (fn := Tryz.f59) (X := zH) (n := 2) (fun _ => aP ba aq ak kK) Tryz.func59 (by kernel_rfl) (by kernel_rfl) (of_decide_eq_true (by kernel_rfl)) Sz
theorem nv : ar Tryz.prog Lp := ⟨Rw, kK⟩
theorem BR (x : HL (dV : ah).as) (hp : (dV : ah).pre x) (hl : aD (dV : ah).as x) : vc (mm x) 2 27 Tryz.f27 (dV) x := by
 rw [sn]
 exact C3 x hp hl
theorem Cc : aX Tryz.prog 27 (dV) :=
 av (c := dV) (fn := Tryz.f27) (X := mm) (n := 2) (fun _ => aP ba aq ak nv) Tryz.func27 (by kernel_rfl) (by kernel_rfl) (of_decide_eq_true (by kernel_rfl)) BR
theorem nX : ar Tryz.prog GN := ⟨Cc, nv⟩
theorem LP (x : HL (iJ : ah).as) (hp : (iJ : ah).pre x) (hl : aD (iJ : ah).as x) : vc (wR x) 1 15 Tryz.f15 (iJ) x := by
 rw [Dx]
 exact M8 x hp hl
theorem Nw : aX Tryz.prog 15 (iJ) :=
 av (c := iJ) (fn := Tryz.f15) (X := wR) (n := 1) (fun _ => aP ba aq ak nX) Tryz.func15 (by kernel_rfl) (by kernel_rfl) (of_decide_eq_true (by kernel_rfl)) LP
theorem pU : ar Tryz.prog Lt := ⟨Nw, nX⟩
theorem cr : ar Tryz.prog dY := pU
end Go.Proofs.YtlnlichdidobpaaGreatDoor.Bench
