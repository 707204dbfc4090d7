/-
 Each function keeps its contract.
-/
import Derived.Test.YtlnlichdidobpaaGreatDoorKernPJ
namespace Go.Proofs.YtlnlichdidobpaaGreatDoor.Kern
open Go.Sx
set_option maxRecDepth 100000
attribute [local irreducible] vc

theorem cI : ar Tryz.prog pA := eh (eh (eh (eh (Go.Proofs.YtlnlichdidobpaaGreatDoor.Apic.cr) Go.Proofs.YtlnlichdidobpaaGreatDoor.Uart.cr) Go.Proofs.YtlnlichdidobpaaGreatDoor.Line.cr) Go.Proofs.YtlnlichdidobpaaGreatDoor.Nest.cr) Go.Proofs.YtlnlichdidobpaaGreatDoor.Tty.cr
theorem ak : gg Tryz.prog = true := Go.Proofs.YtlnlichdidobpaaGreatDoor.Apic.ak
theorem aq : Tryz.prog.follows .mixedOrders = true := Go.Proofs.YtlnlichdidobpaaGreatDoor.Apic.aq
theorem Oi (x : HL (iI : ah).as) (hp : (iI : ah).pre x) (hl : aD (iI : ah).as x) : vc (uw x) 2 114 Tryz.f114 (iI) x := by
 rw [Cb]
 exact NB x hp hl
theorem NZ : aX Tryz.prog 114 (iI) :=
 av (c := iI) (fn := Tryz.f114) (X := uw) (n := 2) (fun _ => aP ba aq ak cI) Tryz.func114 (by kernel_rfl) (by kernel_rfl) (of_decide_eq_true (by kernel_rfl)) Oi
theorem cJ : ar Tryz.prog pn := ⟨NZ, cI⟩
theorem Ns (x : HL (gW : ah).as) (hp : (gW : ah).pre x) (hl : aD (gW : ah).as x) : vc (wk x) 6 16 Tryz.f16 (gW) x := by
 rw [Dt]
 exact MQ x hp hl
theorem MR : aX Tryz.prog 16 (gW) :=
 av (c := gW) (fn := Tryz.f16) (X := wk) (n := 6) (fun _ => aP ba aq ak cJ) Tryz.func16 (by kernel_rfl) (by kernel_rfl) (of_decide_eq_true (by kernel_rfl)) Ns
theorem cR : ar Tryz.prog p5 := ⟨MR, cJ⟩
theorem cr : ar Tryz.prog dY := cR
end Go.Proofs.YtlnlichdidobpaaGreatDoor.Kern
