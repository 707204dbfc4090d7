/-
  Contracts proved by hand.
-/
import Derived.Test.YtlmddcdafggphaaGreatDoorBenchC
import Derived.Test.YtlmddcdafggphaaGreatDoorBenchH0
import Derived.WalkKit
import Derived.Lib.AtoiErrMem
import Derived.Lib.AppendIntMem
import Derived.BigCall
import Derived.BigGuard
import Derived.Laws.Strings3
import Derived.Lib.Walk
import Derived.Lib.Strings
import Derived.Lib.ConvBytes
import Derived.Lib.ParseIntBMem
import Derived.Lib.Hide
import Derived.Laws.Closers25
import Derived.Laws.Closers25b
import Derived.Lib.ParseIntBCases
import Derived.Shelf.Strconv.ToErrorRange
import Derived.Shelf.Strconv.ToError
import Derived.Lib.Builder
import Derived.Lib.AppendStr
import Derived.Lib.UnsafeStr
import Derived.Lib.MakeNoZero
import Derived.Laws.Externs
import Derived.Laws.IdiomCopy
import Derived.Shelf.Strings.Builder1
namespace Go.Proofs.YtlmddcdafggphaaGreatDoor.Bench
open Go.Sx
set_option maxRecDepth 100000
set_option maxHeartbeats 4000000
set_option linter.unusedSimpArgs false
set_option linter.unusedVariables false

open Go Go.Proofs Go.RowKit
theorem by8_mkStr (l : List Int) : (mkStr l).data.toList = by8 l := by
  simp [mkStr, by8]
theorem un8_by8 {l : List Int} (h : isBytes l) : un8 (by8 l) = l := by
  unfold un8 by8
  rw [List.map_map]
  conv => rhs; rw [← List.map_id l]
  refine List.map_congr_left fun n hn => ?_
  have := h.2 n hn
  show (((UInt8.ofNat n.toNat).toNat : Nat) : Int) = n
  rw [UInt8.toNat_ofNat']
  omega
theorem by8_un8 (l : List UInt8) : by8 (un8 l) = l := by
  unfold un8 by8
  rw [List.map_map]
  conv => rhs; rw [← List.map_id l]
  refine List.map_congr_left fun n hn => ?_
  show UInt8.ofNat ((n.toNat : Int)).toNat = n
  rw [Int.toNat_natCast]
  simp
theorem mkStr_un8 (l : List UInt8) : mkStr (un8 l) = ⟨l.toArray⟩ := by
  have : mkStr (un8 l) = ⟨(by8 (un8 l)).toArray⟩ := rfl
  rw [this, by8_un8]
theorem isBytes_un8 {l : List UInt8} (h : l.length ≤ 9223372036854775807) : isBytes (un8 l) := by
  refine ⟨by unfold un8; rw [List.length_map]; exact h, ?_⟩
  intro b hb
  obtain ⟨c, -, rfl⟩ := List.mem_map.1 hb
  have := c.toNat_lt
  omega
theorem by8_length (l : List Int) : (by8 l).length = l.length := by unfold by8; rw [List.length_map]
theorem rd_str {S : Nat → Prop} {w : World} {l : List UInt8} (h : l.length ≤ 9223372036854775807) : RdV S w .str (.string ⟨l.toArray⟩) (un8 l) := by
  show Rd S w .str [.string ⟨l.toArray⟩] (un8 l)
  exact ⟨by rw [mkStr_un8], isBytes_un8 h⟩
theorem rd_bool {S : Nat → Prop} {w : World} {b : Bool} : RdV S w .bool (.bool b) b := by
  show Rd S w .bool [.bool b] b
  rfl
theorem arg_s {S : Nat → Prop} {w : World} {args : Array Value} {x : List Int} {u : Unit} (h : RdVs S w [.str] args.toList (x, u)) : args = #[.string (mkStr x)] ∧ isBytes x := by
  obtain ⟨l⟩ := args
  match l, h with
  | [], h => exact h.elim
  | [v], h =>
    obtain ⟨h1, h2⟩ : [v] = [Value.string (mkStr x)] ∧ isBytes x := h.1
    injection h1 with h1
    subst h1
    exact ⟨rfl, h2⟩
  | _ :: _ :: _, h => exact h.2.elim
theorem arg_i {S : Nat → Prop} {w : World} {args : Array Value} {x : Int} {u : Unit} (h : RdVs S w [I64] args.toList (x, u)) : args = #[.int .i64 x] := by
  obtain ⟨l⟩ := args
  match l, h with
  | [], h => exact h.elim
  | [v], h =>
    obtain ⟨h1, h2⟩ : [v] = [Value.int .i64 x] ∧ IR .i64 x := h.1
    injection h1 with h1
    subst h1
    rfl
  | _ :: _ :: _, h => exact h.2.elim
theorem arg_ss {S : Nat → Prop} {w : World} {args : Array Value} {x y : List Int} {u : Unit} (h : RdVs S w [.str, .str] args.toList (x, y, u)) : args = #[.string (mkStr x), .string (mkStr y)] ∧ isBytes x ∧ isBytes y := by
  obtain ⟨l⟩ := args
  match l, h with
  | [], h => exact h.elim
  | [_], h => exact h.2.elim
  | [v, v'], h =>
    obtain ⟨h1, h2⟩ : [v] = [Value.string (mkStr x)] ∧ isBytes x := h.1
    obtain ⟨h3, h4⟩ : [v'] = [Value.string (mkStr y)] ∧ isBytes y := h.2.1
    injection h1 with h1
    injection h3 with h3
    subst h1 h3
    exact ⟨rfl, h2, h4⟩
  | _ :: _ :: _ :: _, h => exact h.2.2.elim
theorem glNum {w : World} (h : GlOk w) : ∃ m, w.cell? ⟨1, 0, none⟩ = some (.int .i64 m) := (h (1, .num) (by simp [seatGl])).2
theorem glSyn {w : World} (h : GlOk w) : ∃ tp p, w.cell? ⟨2, 0, none⟩ = some (.iface tp p) := (h (2, .err) (by simp [seatGl])).2
theorem glRan {w : World} (h : GlOk w) : ∃ tp p, w.cell? ⟨3, 0, none⟩ = some (.iface tp p) := (h (3, .err) (by simp [seatGl])).2
theorem cut_len (s t : List UInt8) : (Lib.cut s t).1.length ≤ s.length ∧ (Lib.cut s t).2.1.length ≤ s.length := by
  unfold Lib.cut
  split
  · simp only [List.length_take, List.length_drop]
    omega
  · simp
theorem c_cut : CtrOk Tryz.prog 14 cCut := by
  refine ⟨⟨Tryz.f14, Tryz.func14, by kernel_rfl, by kernel_rfl⟩, fun S w args x hS hgl hargs hpre => ?_⟩
  obtain ⟨a, b, u⟩ := x
  obtain ⟨rfl, ha, hb⟩ := arg_ss hargs
  have hlen : a.length ≤ 1048576 := hpre.1
  obtain ⟨m, hm⟩ := glNum hgl
  refine (Any.strings_Cut cutL (mkStr a) (mkStr b) m w (by rw [mkStr_size]; omega) hm).mono fun e w' h => ?_
  obtain ⟨rfl, n, rfl⟩ := h
  have h1 := cut_len (by8 a) (by8 b)
  rw [by8_length] at h1
  rw [by8_mkStr, by8_mkStr]
  exact ⟨_, rfl, ⟨_, rfl, rd_str (by omega), rd_str (by omega), rd_bool, trivial⟩, ⟨rfl, rfl, rfl, Nat.le_refl _, fun _ _ => rfl⟩⟩
end Go.Proofs.YtlmddcdafggphaaGreatDoor.Bench
namespace Go.Proofs.YtlmddcdafggphaaGreatDoor.Bench
open Go.Sx
set_option maxRecDepth 100000
set_option maxHeartbeats 4000000
set_option linter.unusedSimpArgs false
set_option linter.unusedVariables false

open Go Go.Proofs Go.RowKit
theorem glPow {w : World} (h : GlOk w) : Lib.TabIs Tryz.prog w "internal/strconv.uint64pow10" .u64 Lib.pow10Tab := by
  have h' : Gl.ok w 0 (.u64 Lib.pow10Tab) := (h (0, .u64 Lib.pow10Tab) (by simp [seatGl])).2
  unfold Gl.ok at h'
  obtain ⟨e, fz, hb⟩ := h'
  unfold Lib.TabIs World.var?
  rw [show Tryz.prog.globalNamed "internal/strconv.uint64pow10" = some 0 by kernel_rfl]
  simp only [Option.bind_some, hb]
theorem nDigits_le {u : Nat} (h : u < 18446744073709551616) : (Lib.decDigits u).length ≤ 20 := by
  rw [Lib.decDigits_length]
  by_cases h1 : 1 ≤ u
  · have := Lib.numDigits_eq u h1 h
    split at this <;> omega
  · have : u = 0 := by omega
    subst this
    rw [Lib.nDigits_small (by omega)]
    omega
theorem c_itoa : CtrOk Tryz.prog 9 cItoa := by
  refine ⟨⟨Tryz.f9, Tryz.func9, by kernel_rfl, by kernel_rfl⟩, fun S w args x hS hgl hargs hpre => ?_⟩
  obtain ⟨n, u⟩ := x
  change Int at n
  obtain rfl := arg_i hargs
  have h0 : (0 : Int) ≤ n := hpre.1
  have h1 : n ≤ (1099511627776 : Int) := hpre.2
  refine (Any.strconv_Itoa itoaL n (by omega) (by omega) w (glPow hgl)).mono fun e w' h => ?_
  obtain ⟨rfl, k, os, rfl⟩ := h
  have e1 : Lib.itoa n = Lib.decDigits n.toNat := by unfold Lib.itoa; rw [if_neg (by omega)]
  rw [e1]
  have h2 := nDigits_le (u := n.toNat) (by omega)
  refine ⟨_, rfl, ?_, Lib.below_grow _ w (Nat.le_refl _) k os⟩
  exact rd_str (S := S) (w := w) (by omega)
theorem rd_err0 {S : Nat → Prop} {w : World} : RdV S w .err .nilIface false := by
  show Rd S w .err [.nilIface] false
  exact .inl ⟨rfl, rfl⟩
theorem rd_err1 {S : Nat → Prop} {w : World} {t : TypeId} {v : Value} : RdV S w .err (.iface t v) true := by
  show Rd S w .err [.iface t v] true
  exact .inr ⟨rfl, t, v, rfl⟩
theorem rd_i64 {S : Nat → Prop} {w : World} {n : Int} (h0 : -9223372036854775808 ≤ n) (h1 : n ≤ 9223372036854775807) : RdV S w I64 (.int .i64 n) n := by
  show Rd S w I64 [.int .i64 n] n
  exact ⟨rfl, h0, h1⟩
theorem ends_int (x : Lib.NumEnd Int) : (∃ v, x = .ok v) ∨ x = .range ∨ x = Lib.atoiAll [] := by
  cases x
  · exact .inl ⟨_, rfl⟩
  · exact .inr (.inr rfl)
  · exact .inr (.inl rfl)
theorem c_atoi : CtrOk Tryz.prog 26 cAtoi := by
  refine ⟨⟨Tryz.f26, Tryz.func26, by kernel_rfl, by kernel_rfl⟩, fun S w args x hS hgl hargs hpre => ?_⟩
  obtain ⟨s, u⟩ := x
  obtain ⟨rfl, hs⟩ := arg_s hargs
  have hlen : s.length ≤ 1048576 := hpre
  have hsz : (mkStr s).size ≤ 281474976710656 := by rw [mkStr_size]; omega
  rcases ends_int (Lib.atoiAll (by8 s)) with ⟨v, h⟩ | h | h
  · have hb := Lib.atoiAll_bounds h
    have eV : atoiV s = v := by unfold atoiV; rw [h]
    have eE : atoiE s = false := by unfold atoiE; rw [h]
    rw [← by8_mkStr] at h
    refine (Any.strconv_Atoi_ok atoiL (mkStr s) (by omega) v h w).mono fun e w' h => ?_
    obtain ⟨rfl, hw⟩ := h
    refine ⟨_, rfl, ⟨_, rfl, ?_, ?_, trivial⟩, ?_⟩
    · show RdV S w I64 (.int .i64 v) (atoiV s)
      rw [eV]
      exact rd_i64 (by omega) (by omega)
    · show RdV S w .err .nilIface (atoiE s)
      rw [eE]
      exact rd_err0
    · rcases hw with rfl | ⟨t, rfl⟩
      · exact Below.refl _ _
      · exact Lib.bytesWorld_below _ _ _
  · have eV : atoiV s = Lib.atoiSat (by8 s) := by unfold atoiV; rw [h]
    have eE : atoiE s = true := by unfold atoiE; rw [h]
    rw [← by8_mkStr] at h
    obtain ⟨tp, p, hv⟩ := glRan hgl
    refine (Any.strconv_Atoi_range atoiL (mkStr s) hsz h (.iface tp p) w hv (.inr ⟨_, _, rfl⟩)).mono fun e w' h => ?_
    obtain ⟨N, rfl, -, -, hb⟩ := h
    refine ⟨_, rfl, ⟨_, rfl, ?_, ?_, trivial⟩, hb⟩
    · show RdV S w I64 (.int .i64 (Lib.atoiSat (mkStr s).data.toList)) (atoiV s)
      rw [eV, by8_mkStr]
      have : Lib.atoiSat (by8 s) = -9223372036854775808 ∨ Lib.atoiSat (by8 s) = 9223372036854775807 := by unfold Lib.atoiSat; split <;> simp
      exact rd_i64 (by omega) (by omega)
    · show RdV S w .err (.iface _ _) (atoiE s)
      rw [eE]
      exact rd_err1
  · have eV : atoiV s = 0 := by unfold atoiV; rw [h]; rfl
    have eE : atoiE s = true := by unfold atoiE; rw [h]; rfl
    rw [← by8_mkStr] at h
    obtain ⟨tp, p, hv⟩ := glSyn hgl
    refine (Any.strconv_Atoi_syntax atoiL (mkStr s) hsz h (.iface tp p) w hv (.inr ⟨_, _, rfl⟩)).mono fun e w' h => ?_
    obtain ⟨N, rfl, -, -, hb⟩ := h
    refine ⟨_, rfl, ⟨_, rfl, ?_, ?_, trivial⟩, hb⟩
    · show RdV S w I64 (.int .i64 0) (atoiV s)
      rw [eV]
      exact rd_i64 (by omega) (by omega)
    · show RdV S w .err (.iface _ _) (atoiE s)
      rw [eE]
      exact rd_err1
end Go.Proofs.YtlmddcdafggphaaGreatDoor.Bench
namespace Go.Proofs.YtlmddcdafggphaaGreatDoor.Bench
open Go.Sx
set_option maxRecDepth 100000
set_option maxHeartbeats 4000000
set_option linter.unusedSimpArgs false
set_option linter.unusedVariables false

open Go Go.Proofs Go.RowKit Go.Sort Go.Lib Go.Shelf
theorem fmt_small (u : Nat) (hi : u < 100) (w : World) :
    Calls Tryz.prog 60 #[.int .u64 u, .int .i64 10] w fun e w' => e = .returned (.string ⟨(Lib.decDigits u).toArray⟩) ∧ Below w.heap.size w w' := by
  have hw : IntKind.i64.wrap (u : Int) = u := wrap_in (k := .i64) ⟨by omega, by omega⟩
  go_enter Tryz.func60, Tryz.ntmps60
  go_wp2_with (go_at_call 41; refine (Any.internal_strconv_small { itoaL with } u hi _).mono ?_; rintro e w' ⟨rfl, rfl⟩)
  go_ret
  exact ⟨rfl, Below.refl _ _⟩
theorem fmt_big (u : Nat) (hu : 100 ≤ u) (hu64 : u < 18446744073709551616) (w : World) (htab : Lib.TabIs Tryz.prog w "internal/strconv.uint64pow10" .u64 Lib.pow10Tab) :
    Calls Tryz.prog 60 #[.int .u64 u, .int .i64 10] w fun e w' => e = .returned (.string ⟨(Lib.decDigits u).toArray⟩) ∧ Below w.heap.size w w' := by
  have hu1 : 1 ≤ u := by omega
  have hnd20 : Lib.nDigits u ≤ 20 := by rw [← Lib.decDigits_length]; exact nDigits_le hu64
  have hal : Tryz.prog.arrayLen 113 = 24 := by kernel_rfl
  have hsl : ∀ W, (Instr.sliceAt 113 (.pointer (some ⟨w.heap.size, 0, none⟩)) none (some (.int .i64 (Lib.nDigits u : Int))) none).run Tryz.prog W = .ok (.slice (some ⟨w.heap.size, 0, none⟩) (Lib.nDigits u) 24) W := fun W => by
    rw [run_sliceAt_array_h W 113 ⟨w.heap.size, 0, none⟩ (by kernel_rfl) .i64 (Lib.nDigits u : Int) (by omega) (by rw [hal]; omega)]
    go_simp
  have hH0 := Lib.holds_zero0 w 113 (Lib.nDigits u) (by omega)
  have hfmt := Any.internal_strconv_formatBase10 { itoaL with } w.heap.size 0 24 u (Array.replicate (Lib.nDigits u) 0) (w.alloc (.cells Lib.zeros24 113)) hH0 (by rw [Array.size_replicate]; exact Lib.lt_pow_nDigits u) hu64 (by rw [Array.size_replicate]; omega)
  rw [Array.size_replicate] at hfmt
  have HH0 := Lib.hid hH0
  have iu : (100 : Int) ≤ (u : Int) := by omega
  clear hH0 hal
  go_enter Tryz.func60, Tryz.ntmps60
  go_wp2_with (first
    | (go_at_call 42; refine (Any.internal_strconv_numDigits { itoaL with } u hu1 hu64 _ (Lib.tabIs_alloc htab _)).mono ?_; rintro e w' ⟨rfl, rfl⟩))
  refine hfmt.mono ?_
  rintro e w' ⟨rfl, k, v', dk, rfl, hF⟩
  have hcv : (convert 32 9 (.slice (some ⟨w.heap.size, 0, none⟩) (Lib.nDigits u) 24)).run Tryz.prog ((putRow (fun (b : UInt8) => Value.int .u8 (b.toNat : Int)) (w.alloc (.cells Lib.zeros24 113)) w.heap.size 0 dk).drewN k) = .ok (.string ⟨(Lib.decDigits u).toArray⟩) ((putRow (fun (b : UInt8) => Value.int .u8 (b.toNat : Int)) (w.alloc (.cells Lib.zeros24 113)) w.heap.size 0 dk).drewN k) := by
    have h := run_convert_bytes_back (P := Tryz.prog) ((putRow (fun (b : UInt8) => Value.int .u8 (b.toNat : Int)) (w.alloc (.cells Lib.zeros24 113)) w.heap.size 0 dk).drewN k) 32 9 5 ⟨w.heap.size, 0, none⟩ 24 (Lib.decDigits u) Tryz.underlying32 Tryz.underlying5 Tryz.underlying9 (fun j hj => by
      rw [Lib.row_is_numeral hF j hj, Lib.add_plain, World.cell?_drewN]
      exact cell?_putRow (fun (b : UInt8) => Value.int .u8 (b.toNat : Int)) _ w.heap.size 0 _ dk HH0.out (by rw [hF.size, Array.size_replicate]) j (by rw [hF.size]; rw [Lib.decDigits_length] at hj; exact hj))
    rw [Lib.decDigits_length] at h
    exact h
  obtain ⟨os, eo⟩ := Lib.fin_at w (.cells Lib.zeros24 113) dk k 0
  have hb : Below w.heap.size w ((putRow (fun (b : UInt8) => Value.int .u8 (b.toNat : Int)) (w.alloc (.cells Lib.zeros24 113)) w.heap.size 0 dk).drewN k) := by rw [eo]; exact Lib.below_grow _ w (Nat.le_refl _) k os
  generalize (putRow (fun (b : UInt8) => Value.int .u8 (b.toNat : Int)) (w.alloc (.cells Lib.zeros24 113)) w.heap.size 0 dk).drewN k = W2 at hcv hb ⊢
  clear eo HH0 hfmt hF
  go_wp2
  go_ret
  exact ⟨rfl, hb⟩
theorem fmt_calls (u : Nat) (hu64 : u < 18446744073709551616) (w : World) (htab : Lib.TabIs Tryz.prog w "internal/strconv.uint64pow10" .u64 Lib.pow10Tab) :
    Calls Tryz.prog 38 #[.int .u64 u, .int .i64 10] w fun e w' => e = .returned (.string ⟨(Lib.decDigits u).toArray⟩) ∧ Below w.heap.size w w' := by
  have key : Calls Tryz.prog 60 #[.int .u64 u, .int .i64 10] w fun e w' => e = .returned (.string ⟨(Lib.decDigits u).toArray⟩) ∧ Below w.heap.size w w' := by
    by_cases h : u < 100
    · exact fmt_small u h w
    · exact fmt_big u (by omega) hu64 w htab
  go_enter Tryz.func38, Tryz.ntmps38
  go_wp2_with (go_at_call 60; refine key.mono ?_; rintro e w' ⟨rfl, hb⟩)
  go_ret
  exact ⟨rfl, hb⟩
theorem c_fmt : CtrOk Tryz.prog 38 cFmt := by
  refine ⟨⟨Tryz.f38, Tryz.func38, by kernel_rfl, by kernel_rfl⟩, fun S w args x hS hgl hargs hpre => ?_⟩
  obtain ⟨n, b, u⟩ := x
  change Int at n
  change Int at b
  obtain ⟨l⟩ := args
  match l, hargs with
  | [], h => exact h.elim
  | [_], h => exact h.2.elim
  | [v, v'], h =>
    obtain ⟨h1, h2⟩ : [v] = [Value.int .u64 n] ∧ IR .u64 n := h.1
    obtain ⟨h3, -⟩ : [v'] = [Value.int .i64 b] ∧ IR .i64 b := h.2.1
    injection h1 with h1
    injection h3 with h3
    have h4 : b = (10 : Int) := hpre.2
    subst h1 h3 h4
    have h0 : (0 : Int) ≤ n := h2.1
    have h1 : n ≤ (1099511627776 : Int) := hpre.1
    obtain ⟨m, rfl⟩ : ∃ m : Nat, n = (m : Int) := ⟨n.toNat, by omega⟩
    refine (fmt_calls m (by omega) w (glPow hgl)).mono fun e w' h => ?_
    obtain ⟨rfl, hb⟩ := h
    refine ⟨_, rfl, ?_, hb⟩
    have h2 := nDigits_le (u := m) (by omega)
    have e1 : dec (m : Int) = un8 (Lib.decDigits m) := rfl
    show RdV S w' .str (.string ⟨(Lib.decDigits m).toArray⟩) (dec (m : Int))
    rw [e1]
    exact rd_str (S := S) (w := w) (by omega)
  | _ :: _ :: _ :: _, h => exact h.2.2.elim
end Go.Proofs.YtlmddcdafggphaaGreatDoor.Bench
namespace Go.Proofs.YtlmddcdafggphaaGreatDoor.Bench
open Go.Sx
set_option maxRecDepth 100000
set_option maxHeartbeats 4000000
set_option linter.unusedSimpArgs false
set_option linter.unusedVariables false

open Go Go.Proofs Go.RowKit Go.Shelf
theorem pu_empty (b c : Int) (w : World) : Calls Tryz.prog 59 #[.string ByteArray.empty, .int .i64 b, .int .i64 c] w fun e w' => e = .returned (.tuple #[.int .u64 0, .iface 143 (.int .i64 2)]) ∧ w' = w := by
  go_enter Tryz.func59, Tryz.ntmps59
  go_wp2
  go_ret2
  exact ⟨rfl, rfl⟩
theorem pu_walk (t : ByteArray) (hne : t.size ≠ 0) (hmax : t.size ≤ 9223372036854775806) (w : World) :
    Calls Tryz.prog 59 #[.string t, .int .i64 10, .int .i64 41] w fun e w' => e = .returned (Lib.uintTupleM 143 2199023255551 (Lib.parseUintM 2199023255551 0 t.data.toList)) ∧ w' = Lib.bytesWorld w 5 t := by
  have e19 : ∀ args w, (callFunc 94 args).run Tryz.prog w = .ok (.enter 94 args) w := enters_of Tryz.func94 (by kernel_rfl) rfl
  have hemp : t.toList.isEmpty = false := by
    rw [← decide_eq_emptyBytes]
    exact decide_eq_false (fun h => hne (by rw [h]; rfl))
  have hcv := Lib.run_convert_string_bytes (P := Tryz.prog) w 9 32 5 t (u := .string) Tryz.underlying9 Tryz.underlying32 Tryz.underlying5
  have hB : ∀ j, j < t.size → (Lib.bytesWorld w 5 t).cell? ⟨w.heap.size, j, none⟩ = some (.int .u8 (t.data.toList.getD j 0).toNat) := fun j hj => Lib.bytesWorld_cell w 5 t j hj
  obtain ⟨W1, hW1⟩ : ∃ W1, W1 = Lib.bytesWorld w 5 t := ⟨_, rfl⟩
  rw [← hW1] at hcv hB ⊢
  clear hW1
  obtain ⟨bs, hL⟩ : ∃ bs, bs = t.data.toList := ⟨_, rfl⟩
  have hLn : bs.length = t.size := by rw [hL, Lib.size_eq]
  rw [← hL] at hB ⊢
  clear hL
  have hmv : IntKind.u64.wrap (IntKind.u64.wrap 2199023255552 - 1) = 2199023255551 := by
    rw [IntKind.wrap_u64, IntKind.wrap_u64]
    decide
  go_enter Tryz.func59, Tryz.ntmps59
  go_wp2
  go_loop [12, 13, 101] (fun vu vn vi => ∃ (k acc : Nat) (a : Int), vu = .bool false ∧ vn = .int .u64 a ∧ vi = .int .i64 k ∧ k ≤ t.size ∧ Hid (a = (acc : Int) ∧ acc ≤ 2199023255551 ∧ Lib.parseUintM 2199023255551 0 bs = Lib.parseUintM 2199023255551 acc (bs.drop k)))
    (fun _ _ vi => t.size - (intOf vi).toNat)
  case atStart => exact ⟨0, 0, 0, rfl, rfl, rfl, by omega, rfl, by omega, rfl⟩
  case round =>
    obtain ⟨k, acc, a, rfl, rfl, rfl, hk, hh⟩ := hrel
    obtain ⟨ha, hacc, hdec⟩ := hh.out
    clear hh
    have a0 : 0 ≤ a := by omega
    have a1 : a ≤ 2199023255551 := by omega
    by_cases hkn : k < t.size
    · have hc := hB k hkn
      have hdrop : bs.drop k = bs[k]'(by omega) :: bs.drop (k + 1) := List.drop_eq_getElem_cons (by omega)
      have hget : bs.getD k 0 = bs[k]'(by omega) := by simp [List.getD, List.getElem?_eq_getElem (show k < bs.length by omega)]
      rw [hdrop] at hdec
      rw [hget] at hc
      generalize bs[k]'(by omega) = c at hc hdec
      have hc256 : c.toNat < 256 := c.toNat_lt
      clear hB hdrop hget
      by_cases hdig : 48 ≤ c.toNat ∧ c.toNat ≤ 57
      · obtain ⟨hd0, hd1⟩ := hdig
        have hcut : ¬ 1844674407370955162 ≤ acc := by omega
        by_cases hov : 2199023255551 < acc * 10 + (c.toNat - 48)
        · have hF : Lib.parseUintM 2199023255551 acc (c :: bs.drop (k + 1)) = .range := by simp [Lib.parseUintM, hd0, hd1, hcut, hov]
          rw [hF] at hdec
          have iov : 2199023255551 < a * 10 + ((c.toNat : Int) - 48) := by omega
          clear hcut hacc hF hov ha
          go_wp2
          go_ret2
          exact ⟨rfl, rfl⟩
        · have hF : Lib.parseUintM 2199023255551 acc (c :: bs.drop (k + 1)) = Lib.parseUintM 2199023255551 (acc * 10 + (c.toNat - 48)) (bs.drop (k + 1)) := by simp [Lib.parseUintM, hd0, hd1, hcut, hov]
          have HN : Hid (a * 10 + ((c.toNat : Int) - 48) = ((acc * 10 + (c.toNat - 48) : Nat) : Int) ∧ acc * 10 + (c.toNat - 48) ≤ 2199023255551 ∧ Lib.parseUintM 2199023255551 0 bs = Lib.parseUintM 2199023255551 (acc * 10 + (c.toNat - 48)) (bs.drop (k + 1))) := Lib.hid ⟨by omega, by omega, hdec.trans hF⟩
          have iov : a * 10 + ((c.toNat : Int) - 48) ≤ 2199023255551 := by omega
          clear hcut hacc hF hov hdec ha
          go_wp2
          refine ⟨⟨k + 1, acc * 10 + (c.toNat - 48), a * 10 + ((c.toNat : Int) - 48), rfl, (by first | rfl | (congr 1; omega)), (by first | rfl | (congr 1; omega)), by omega, HN⟩, by simp [intOf]; omega⟩
      · have hF : Lib.parseUintM 2199023255551 acc (c :: bs.drop (k + 1)) = Lib.parseUintB 41 [] := by simp [Lib.parseUintM, hdig, Lib.parseUintB]
        rw [hF] at hdec
        have HD := Lib.hid hdec
        clear hacc hF ha hdec
        have hv0 := bits_lo_u8 .or (c.toNat : Int) 32
        have hv1 := bits_hi_u8 .or (c.toNat : Int) 32
        have hu0 := bits_lo_u8 .or 95 32
        have hu1 := bits_hi_u8 .or 95 32
        go_wp2_with (go_at_call 94; refine (Any.internal_strconv_lower { atoiL with } _ _).mono ?_; rintro e w' ⟨rfl, rfl⟩)
        all_goals go_ret2
        all_goals exact ⟨by rw [HD.out]; rfl, rfl⟩
    · have hkk : k = t.size := by omega
      subst hkk
      have hF : Lib.parseUintM 2199023255551 acc (bs.drop t.size) = .ok acc := by rw [List.drop_eq_nil_of_le (by omega)]; rfl
      rw [hF] at hdec
      subst ha
      clear hacc hF a0 a1
      go_wp2
      go_ret2
      exact ⟨rfl, rfl⟩
end Go.Proofs.YtlmddcdafggphaaGreatDoor.Bench
namespace Go.Proofs.YtlmddcdafggphaaGreatDoor.Bench
open Go.Sx
set_option maxRecDepth 100000
set_option maxHeartbeats 4000000
set_option linter.unusedSimpArgs false
set_option linter.unusedVariables false

open Go Go.Proofs Go.RowKit Go.Shelf
theorem pu_inner (t : ByteArray) (hmax : t.size ≤ 9223372036854775806) (w : World) :
    Calls Tryz.prog 59 #[.string t, .int .i64 10, .int .i64 41] w fun e w' => e = .returned (Lib.uintTupleM 143 2199023255551 (Lib.parseUintB 41 t.data.toList)) ∧ Below w.heap.size w w' := by
  by_cases h : t.size = 0
  · have ht : t = ByteArray.empty := by
      obtain ⟨d⟩ := t
      have hd : d = #[] := Array.eq_empty_of_size_eq_zero h
      subst hd
      rfl
    subst ht
    refine (pu_empty 10 41 w).mono fun e w' h => ?_
    obtain ⟨rfl, rfl⟩ := h
    exact ⟨rfl, Below.refl _ _⟩
  · have hne : t.data.toList ≠ [] := by
      intro h0
      have : t.data.toList.length = 0 := by rw [h0]; rfl
      rw [Array.length_toList] at this
      exact h this
    have e1 : Lib.parseUintB 41 t.data.toList = Lib.parseUintM 2199023255551 0 t.data.toList := by
      unfold Lib.parseUintB
      rw [if_neg hne]
    rw [e1]
    refine (pu_walk t h hmax w).mono fun e w' h => ?_
    obtain ⟨rfl, rfl⟩ := h
    exact ⟨rfl, Lib.bytesWorld_below _ _ _⟩
theorem ends_nat (x : Lib.NumEnd Nat) : (∃ v, x = .ok v) ∨ x = .range ∨ x = Lib.parseUintB 41 [] := by
  cases x
  · exact .inl ⟨_, rfl⟩
  · exact .inr (.inr rfl)
  · exact .inr (.inl rfl)
theorem pu_ok (s : ByteArray) (hlim : s.size ≤ 281474976710656) (v : Nat) (h : Lib.parseUintB 41 s.data.toList = .ok v) (w : World) :
    Calls Tryz.prog 37 #[.string s, .int .i64 10, .int .i64 41] w fun e w' => e = .returned (.tuple #[.int .u64 v, .nilIface]) ∧ Below w.heap.size w w' := by
  have key := pu_inner s (by omega) w
  rw [h] at key
  have e0 : Lib.uintTupleM 143 2199023255551 (.ok v) = .tuple #[.int .u64 v, .nilIface] := rfl
  rw [e0] at key
  clear h e0
  go_enter Tryz.func37, Tryz.ntmps37
  go_wp2_with (go_at_call 59; refine key.mono ?_; rintro e w' ⟨rfl, hb⟩)
  go_ret2
  exact ⟨rfl, hb⟩
theorem pu_range (s : ByteArray) (hlim : s.size ≤ 281474976710656) (h : Lib.parseUintB 41 s.data.toList = .range) (w : World) (tp : TypeId) (p : Value) (hv : w.cell? ⟨3, 0, none⟩ = some (.iface tp p)) (hlt : 3 < w.heap.size) :
    Calls Tryz.prog 37 #[.string s, .int .i64 10, .int .i64 41] w fun e w' => (∃ t v, e = .returned (.tuple #[.int .u64 2199023255551, .iface t v])) ∧ Below w.heap.size w w' := by
  have key := pu_inner s (by omega) w
  rw [h] at key
  have e0 : Lib.uintTupleM 143 2199023255551 .range = .tuple #[.int .u64 2199023255551, .iface 143 (.int .i64 1)] := rfl
  rw [e0] at key
  clear h e0
  go_enter Tryz.func37, Tryz.ntmps37
  go_wp2_with (go_at_call 59; refine key.mono ?_; rintro e w1 ⟨rfl, hb⟩)
  go_wp2_with (go_at_call 47; refine (Any.strconv_toError_range { atoiL with } _ s _ _ (.iface tp p) _ hlim ?_ (.inr ⟨_, _, rfl⟩)).mono ?_)
  · exact (hb.cell (p := ⟨3, 0, none⟩) hlt).trans hv
  rintro e w2 ⟨N, rfl, -, -, hb2⟩
  go_wp2
  go_ret2
  exact ⟨⟨_, _, rfl⟩, hb.trans (hb2.mono hb.size)⟩
theorem pu_syn (s : ByteArray) (hlim : s.size ≤ 281474976710656) (h : Lib.parseUintB 41 s.data.toList = Lib.parseUintB 41 []) (w : World) (tp : TypeId) (p : Value) (hv : w.cell? ⟨2, 0, none⟩ = some (.iface tp p)) (hlt : 2 < w.heap.size) :
    Calls Tryz.prog 37 #[.string s, .int .i64 10, .int .i64 41] w fun e w' => (∃ t v, e = .returned (.tuple #[.int .u64 0, .iface t v])) ∧ Below w.heap.size w w' := by
  have key := pu_inner s (by omega) w
  rw [h] at key
  have e0 : Lib.uintTupleM 143 2199023255551 (Lib.parseUintB 41 []) = .tuple #[.int .u64 0, .iface 143 (.int .i64 2)] := rfl
  rw [e0] at key
  clear h e0
  go_enter Tryz.func37, Tryz.ntmps37
  go_wp2_with (go_at_call 59; refine key.mono ?_; rintro e w1 ⟨rfl, hb⟩)
  go_wp2_with (go_at_call 47; refine (Any.strconv_toError_syntax { atoiL with } _ s _ _ (.iface tp p) _ hlim ?_ (.inr ⟨_, _, rfl⟩)).mono ?_)
  · exact (hb.cell (p := ⟨2, 0, none⟩) hlt).trans hv
  rintro e w2 ⟨N, rfl, -, -, hb2⟩
  go_wp2
  go_ret2
  exact ⟨⟨_, _, rfl⟩, hb.trans (hb2.mono hb.size)⟩
theorem rd_u64 {S : Nat → Prop} {w : World} {n : Int} (h0 : 0 ≤ n) (h1 : n ≤ 18446744073709551615) : RdV S w U64 (.int .u64 n) n := by
  show Rd S w U64 [.int .u64 n] n
  exact ⟨rfl, h0, h1⟩
theorem c_pu : CtrOk Tryz.prog 37 cPu := by
  refine ⟨⟨Tryz.f37, Tryz.func37, by kernel_rfl, by kernel_rfl⟩, fun S w args x hS hgl hargs hpre => ?_⟩
  obtain ⟨s, b, c, u⟩ := x
  change Int at b
  change Int at c
  obtain ⟨l⟩ := args
  match l, hargs with
  | [], h => exact h.elim
  | [_], h => exact h.2.elim
  | [_, _], h => exact h.2.2.elim
  | [v, v', v''], h =>
    obtain ⟨h1, h2⟩ : [v] = [Value.string (mkStr s)] ∧ isBytes s := h.1
    obtain ⟨h3, -⟩ : [v'] = [Value.int .i64 b] ∧ IR .i64 b := h.2.1
    obtain ⟨h5, -⟩ : [v''] = [Value.int .i64 c] ∧ IR .i64 c := h.2.2.1
    injection h1 with h1
    injection h3 with h3
    injection h5 with h5
    have h4 : b = (10 : Int) := hpre.2.1
    have h6 : c = (41 : Int) := hpre.2.2
    subst h1 h3 h5 h4 h6
    have hlen : s.length ≤ 1048576 := hpre.1
    have hsz : (mkStr s).size ≤ 281474976710656 := by rw [mkStr_size]; omega
    rcases ends_nat (puEnd s) with ⟨v, h⟩ | h | h
    · have eV : pu41V s = v := by unfold pu41V; rw [h]
      have eE : pu41E s = false := by unfold pu41E; rw [h]
      unfold puEnd at h
      have hle := Lib.parseUintB_le h
      rw [← by8_mkStr] at h
      refine (pu_ok (mkStr s) hsz v h w).mono fun e w' h => ?_
      obtain ⟨rfl, hb⟩ := h
      refine ⟨_, rfl, ⟨_, rfl, ?_, ?_, trivial⟩, hb⟩
      · show RdV S w U64 (.int .u64 v) (pu41V s)
        rw [eV]
        exact rd_u64 (by omega) (by omega)
      · show RdV S w .err .nilIface (pu41E s)
        rw [eE]
        exact rd_err0
    · have eV : pu41V s = 2199023255551 := by unfold pu41V; rw [h]
      have eE : pu41E s = true := by unfold pu41E; rw [h]
      unfold puEnd at h
      rw [← by8_mkStr] at h
      obtain ⟨tp, p, hv⟩ := glRan hgl
      refine (pu_range (mkStr s) hsz h w tp p hv (hgl (3, .err) (by simp [seatGl])).1).mono fun e w' h => ?_
      obtain ⟨⟨t, v, rfl⟩, hb⟩ := h
      refine ⟨_, rfl, ⟨_, rfl, ?_, ?_, trivial⟩, hb⟩
      · show RdV S w U64 (.int .u64 2199023255551) (pu41V s)
        rw [eV]
        exact rd_u64 (by omega) (by omega)
      · show RdV S w .err (.iface t v) (pu41E s)
        rw [eE]
        exact rd_err1
    · have eV : pu41V s = 0 := by unfold pu41V; rw [h]; rfl
      have eE : pu41E s = true := by unfold pu41E; rw [h]; rfl
      unfold puEnd at h
      rw [← by8_mkStr] at h
      obtain ⟨tp, p, hv⟩ := glSyn hgl
      refine (pu_syn (mkStr s) hsz h w tp p hv (hgl (2, .err) (by simp [seatGl])).1).mono fun e w' h => ?_
      obtain ⟨⟨t, v, rfl⟩, hb⟩ := h
      refine ⟨_, rfl, ⟨_, rfl, ?_, ?_, trivial⟩, hb⟩
      · show RdV S w U64 (.int .u64 0) (pu41V s)
        rw [eV]
        exact rd_u64 (by omega) (by omega)
      · show RdV S w .err (.iface t v) (pu41E s)
        rw [eE]
        exact rd_err1
  | _ :: _ :: _ :: _ :: _, h => exact h.2.2.2.elim
end Go.Proofs.YtlmddcdafggphaaGreatDoor.Bench
namespace Go.Proofs.YtlmddcdafggphaaGreatDoor.Bench
open Go.Sx
set_option maxRecDepth 100000
set_option maxHeartbeats 4000000
set_option linter.unusedSimpArgs false
set_option linter.unusedVariables false

open Go Go.Proofs Go.RowKit Go.Shelf
theorem bX : Builder.Extra Tryz.prog bstrL_ren where
  sizeBuilder := by kernel_rfl
  liesBuilder := by kernel_rfl
  t5 := Tryz.underlying5
  a5 := Tryz.isAgg5
  z5 := Tryz.sizeOf5
  v5 := Tryz.zeroValue5
  infoByte := by kernel_rfl
  cellsByte := by kernel_rfl
  sizeByte := by kernel_rfl
  neB5 := by decide
theorem check_used (b : Nat) (w : World) (h0 : w.cell? ⟨b, 0, none⟩ = some (.pointer (some ⟨b, 0, none⟩))) :
    Calls Tryz.prog 35 #[.pointer (some ⟨b, 0, none⟩)] w fun e w' => e = .returned (.tuple #[]) ∧ w' = w := by
  obtain ⟨j, hj, _⟩ := Option.map_eq_some_iff.1 (show (Tryz.prog.info? 74).map (·.size) = some 2 by kernel_rfl)
  go_enter Tryz.func35, Tryz.ntmps35
  go_wp2
  rw [Lib.run_neq_ptr_same w _ Tryz.underlying72 hj]
  go_wp2
  go_end0
  exact ⟨rfl, rfl⟩
theorem check_fresh (b : Nat) (w : World) (h0 : w.cell? ⟨b, 0, none⟩ = some (.pointer none)) (hsh : w.shape? b = some (74, 2)) (hfz : w.frozen? ⟨b, 0, none⟩ = false) :
    Calls Tryz.prog 35 #[.pointer (some ⟨b, 0, none⟩)] w fun e w' => e = .returned (.tuple #[]) ∧ w' = w.setCell ⟨b, 0, none⟩ (.pointer (some ⟨b, 0, none⟩)) := by
  obtain ⟨j, hj, hjs⟩ := Option.map_eq_some_iff.1 (show (Tryz.prog.info? 74).map (·.size) = some 2 by kernel_rfl)
  go_enter Tryz.func35, Tryz.ntmps35
  go_wp2
  rw [Lib.run_to_unsafe w ⟨b, 0, none⟩ Tryz.underlying72 Tryz.underlying132 hj (by rw [hjs]; decide) hsh (Nat.zero_lt_succ 1)]
  simp only [Result.andThen]
  rw [Oper.upon_value]
  go_wp2
  rw [run_callFunc_extern Tryz.func58 (by kernel_rfl) (by kernel_rfl) (by kernel_rfl) (e := Extern.AbiNoEscape.same) (by kernel_rfl)]
  rw [Lib.run_noEscape]
  simp only [Result.andThen]
  rw [Oper.upon_value]
  go_wp2
  rw [Lib.run_from_unsafe w ⟨b, 0, none⟩ Tryz.underlying132 Tryz.underlying72 hj hsh (by kernel_rfl)]
  simp only [Result.andThen]
  rw [Oper.upon_value]
  go_wp2
  go_end0
  exact ⟨rfl, rfl⟩
theorem check_calls (B b : Nat) (bs : List Value) (w : World) (h : Lib.IsBuilder 74 5 B b bs w) :
    Calls Tryz.prog 35 #[.pointer (some ⟨b, 0, none⟩)] w fun e w' => e = .returned (.tuple #[]) ∧ (Lib.BuilderAt 74 5 B b (.pointer (some ⟨b, 0, none⟩)) bs w' ∧ Below B w w') := by
  rcases h with h | h
  · refine (check_fresh b w h.cell0 h.shape h.frozen0).mono ?_
    rintro e w' ⟨rfl, rfl⟩
    exact ⟨rfl, h.used _, (Below.refl B w).setCell (p := ⟨b, 0, none⟩) h.1 _⟩
  · refine (check_used b w h.cell0).mono ?_
    rintro e w' ⟨rfl, rfl⟩
    exact ⟨rfl, h, Below.refl B _⟩
end Go.Proofs.YtlmddcdafggphaaGreatDoor.Bench
