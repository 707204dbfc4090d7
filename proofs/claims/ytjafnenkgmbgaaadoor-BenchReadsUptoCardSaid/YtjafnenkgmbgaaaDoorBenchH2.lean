/-
  strconv.Itoa and strconv.Atoi keep their contracts.
-/
import Derived.Test.YtjafnenkgmbgaaaDoorBenchC
import Derived.Test.YtjafnenkgmbgaaaDoorBenchH1
import Derived.Lib.AtoiErrMem
import Derived.Lib.AppendIntMem
namespace Go.Proofs.YtjafnenkgmbgaaaDoor.Bench
open Go.Sx
set_option maxRecDepth 100000
set_option maxHeartbeats 4000000
set_option linter.unusedSimpArgs false
set_option linter.unusedVariables false

open Go Go.Proofs Go.RowKit
theorem glPow {w : World} (h : GlOk w) : Lib.TabIs Tryd.prog w "internal/strconv.uint64pow10" .u64 Lib.pow10Tab := by
  have h' : Gl.ok w 1 (.u64 Lib.pow10Tab) := (h (1, .u64 Lib.pow10Tab) (by simp [seatGl])).2
  unfold Gl.ok at h'
  obtain ⟨e, fz, hb⟩ := h'
  unfold Lib.TabIs World.var?
  rw [show Tryd.prog.globalNamed "internal/strconv.uint64pow10" = some 1 by kernel_rfl]
  simp only [Option.bind_some, hb]
theorem nDigits_le {u : Nat} (h : u < 18446744073709551616) : (Lib.decDigits u).length ≤ 20 := by
  rw [Lib.decDigits_length]
  by_cases h1 : 1 ≤ u
  · have := Lib.numDigits_eq u h1 h
    split at this <;> omega
  · have : u = 0 := by omega
    subst this
    rw [Lib.nDigits_small (by omega)]
    omega
theorem c_itoa : CtrOk Tryd.prog 13 cItoa := by
  refine ⟨⟨Tryd.f13, Tryd.func13, by kernel_rfl, by kernel_rfl⟩, fun S w args x hS hgl hargs hpre => ?_⟩
  obtain ⟨n, u⟩ := x
  change Int at n
  obtain rfl := arg_i hargs
  have h0 : (0 : Int) ≤ n := hpre.1
  have h1 : n ≤ (1099511627776 : Int) := hpre.2
  refine (Any.strconv_Itoa itoaL n (by omega) (by omega) w (glPow hgl)).mono fun e w' h => ?_
  obtain ⟨rfl, k, os, rfl⟩ := h
  have e1 : Lib.itoa n = Lib.decDigits n.toNat := by unfold Lib.itoa; rw [if_neg (by omega)]
  rw [e1]
  have h2 := nDigits_le (u := n.toNat) (by omega)
  refine ⟨_, rfl, ?_, Lib.below_grow _ w (Nat.le_refl _) k os⟩
  exact rd_str (S := S) (w := w) (by omega)
theorem rd_err0 {S : Nat → Prop} {w : World} : RdV S w .err .nilIface false := by
  show Rd S w .err [.nilIface] false
  exact .inl ⟨rfl, rfl⟩
theorem rd_err1 {S : Nat → Prop} {w : World} {t : TypeId} {v : Value} : RdV S w .err (.iface t v) true := by
  show Rd S w .err [.iface t v] true
  exact .inr ⟨rfl, t, v, rfl⟩
theorem rd_i64 {S : Nat → Prop} {w : World} {n : Int} (h0 : -9223372036854775808 ≤ n) (h1 : n ≤ 9223372036854775807) : RdV S w I64 (.int .i64 n) n := by
  show Rd S w I64 [.int .i64 n] n
  exact ⟨rfl, h0, h1⟩
theorem ends_int (x : Lib.NumEnd Int) : (∃ v, x = .ok v) ∨ x = .range ∨ x = Lib.atoiAll [] := by
  cases x
  · exact .inl ⟨_, rfl⟩
  · exact .inr (.inr rfl)
  · exact .inr (.inl rfl)
theorem c_atoi : CtrOk Tryd.prog 22 cAtoi := by
  refine ⟨⟨Tryd.f22, Tryd.func22, by kernel_rfl, by kernel_rfl⟩, fun S w args x hS hgl hargs hpre => ?_⟩
  obtain ⟨s, u⟩ := x
  obtain ⟨rfl, hs⟩ := arg_s hargs
  have hlen : s.length ≤ 1048576 := hpre
  have hsz : (mkStr s).size ≤ 281474976710656 := by rw [mkStr_size]; omega
  rcases ends_int (Lib.atoiAll (by8 s)) with ⟨v, h⟩ | h | h
  · have hb := Lib.atoiAll_bounds h
    have eV : atoiV s = v := by unfold atoiV; rw [h]
    have eE : atoiE s = false := by unfold atoiE; rw [h]
    rw [← by8_mkStr] at h
    refine (Any.strconv_Atoi_ok atoiL (mkStr s) (by omega) v h w).mono fun e w' h => ?_
    obtain ⟨rfl, hw⟩ := h
    refine ⟨_, rfl, ⟨_, rfl, ?_, ?_, trivial⟩, ?_⟩
    · show RdV S w I64 (.int .i64 v) (atoiV s)
      rw [eV]
      exact rd_i64 (by omega) (by omega)
    · show RdV S w .err .nilIface (atoiE s)
      rw [eE]
      exact rd_err0
    · rcases hw with rfl | ⟨t, rfl⟩
      · exact Below.refl _ _
      · exact Lib.bytesWorld_below _ _ _
  · have eV : atoiV s = Lib.atoiSat (by8 s) := by unfold atoiV; rw [h]
    have eE : atoiE s = true := by unfold atoiE; rw [h]
    rw [← by8_mkStr] at h
    obtain ⟨tp, p, hv⟩ := glRan hgl
    refine (Any.strconv_Atoi_range atoiL (mkStr s) hsz h (.iface tp p) w hv (.inr ⟨_, _, rfl⟩)).mono fun e w' h => ?_
    obtain ⟨N, rfl, -, -, hb⟩ := h
    refine ⟨_, rfl, ⟨_, rfl, ?_, ?_, trivial⟩, hb⟩
    · show RdV S w I64 (.int .i64 (Lib.atoiSat (mkStr s).data.toList)) (atoiV s)
      rw [eV, by8_mkStr]
      have : Lib.atoiSat (by8 s) = -9223372036854775808 ∨ Lib.atoiSat (by8 s) = 9223372036854775807 := by unfold Lib.atoiSat; split <;> simp
      exact rd_i64 (by omega) (by omega)
    · show RdV S w .err (.iface _ _) (atoiE s)
      rw [eE]
      exact rd_err1
  · have eV : atoiV s = 0 := by unfold atoiV; rw [h]; rfl
    have eE : atoiE s = true := by unfold atoiE; rw [h]; rfl
    rw [← by8_mkStr] at h
    obtain ⟨tp, p, hv⟩ := glSyn hgl
    refine (Any.strconv_Atoi_syntax atoiL (mkStr s) hsz h (.iface tp p) w hv (.inr ⟨_, _, rfl⟩)).mono fun e w' h => ?_
    obtain ⟨N, rfl, -, -, hb⟩ := h
    refine ⟨_, rfl, ⟨_, rfl, ?_, ?_, trivial⟩, hb⟩
    · show RdV S w I64 (.int .i64 0) (atoiV s)
      rw [eV]
      exact rd_i64 (by omega) (by omega)
    · show RdV S w .err (.iface _ _) (atoiE s)
      rw [eE]
      exact rd_err1

end Go.Proofs.YtjafnenkgmbgaaaDoor.Bench
