/-
  Contracts proved by hand.
-/
import Derived.Test.YtdhldloajddfiaaGreatDoorBenchC
import Derived.Test.YtdhldloajddfiaaGreatDoorBenchH0
import Derived.WalkKit
import Derived.Lib.AtoiErrMem
import Derived.Lib.AppendIntMem
import Derived.BigCall
import Derived.Lib.Builder
import Derived.Lib.AppendStr
import Derived.Lib.UnsafeStr
import Derived.Lib.MakeNoZero
import Derived.Laws.Externs
import Derived.Laws.IdiomCopy
import Derived.Shelf.Strings.Builder1
namespace Go.Proofs.YtdhldloajddfiaaGreatDoor.Bench
open Go.Sx
set_option maxRecDepth 100000
set_option maxHeartbeats 4000000
set_option linter.unusedSimpArgs false
set_option linter.unusedVariables false

open Go Go.Proofs Go.RowKit
theorem by8_mkStr (l : List Int) : (mkStr l).data.toList = by8 l := by
  simp [mkStr, by8]
theorem un8_by8 {l : List Int} (h : isBytes l) : un8 (by8 l) = l := by
  unfold un8 by8
  rw [List.map_map]
  conv => rhs; rw [← List.map_id l]
  refine List.map_congr_left fun n hn => ?_
  have := h.2 n hn
  show (((UInt8.ofNat n.toNat).toNat : Nat) : Int) = n
  rw [UInt8.toNat_ofNat']
  omega
theorem by8_un8 (l : List UInt8) : by8 (un8 l) = l := by
  unfold un8 by8
  rw [List.map_map]
  conv => rhs; rw [← List.map_id l]
  refine List.map_congr_left fun n hn => ?_
  show UInt8.ofNat ((n.toNat : Int)).toNat = n
  rw [Int.toNat_natCast]
  simp
theorem mkStr_un8 (l : List UInt8) : mkStr (un8 l) = ⟨l.toArray⟩ := by
  have : mkStr (un8 l) = ⟨(by8 (un8 l)).toArray⟩ := rfl
  rw [this, by8_un8]
theorem isBytes_un8 {l : List UInt8} (h : l.length ≤ 9223372036854775807) : isBytes (un8 l) := by
  refine ⟨by unfold un8; rw [List.length_map]; exact h, ?_⟩
  intro b hb
  obtain ⟨c, -, rfl⟩ := List.mem_map.1 hb
  have := c.toNat_lt
  omega
theorem by8_length (l : List Int) : (by8 l).length = l.length := by unfold by8; rw [List.length_map]
theorem rd_str {S : Nat → Prop} {w : World} {l : List UInt8} (h : l.length ≤ 9223372036854775807) : RdV S w .str (.string ⟨l.toArray⟩) (un8 l) := by
  show Rd S w .str [.string ⟨l.toArray⟩] (un8 l)
  exact ⟨by rw [mkStr_un8], isBytes_un8 h⟩
theorem rd_bool {S : Nat → Prop} {w : World} {b : Bool} : RdV S w .bool (.bool b) b := by
  show Rd S w .bool [.bool b] b
  rfl
theorem arg_s {S : Nat → Prop} {w : World} {args : Array Value} {x : List Int} {u : Unit} (h : RdVs S w [.str] args.toList (x, u)) : args = #[.string (mkStr x)] ∧ isBytes x := by
  obtain ⟨l⟩ := args
  match l, h with
  | [], h => exact h.elim
  | [v], h =>
    obtain ⟨h1, h2⟩ : [v] = [Value.string (mkStr x)] ∧ isBytes x := h.1
    injection h1 with h1
    subst h1
    exact ⟨rfl, h2⟩
  | _ :: _ :: _, h => exact h.2.elim
theorem arg_i {S : Nat → Prop} {w : World} {args : Array Value} {x : Int} {u : Unit} (h : RdVs S w [I64] args.toList (x, u)) : args = #[.int .i64 x] := by
  obtain ⟨l⟩ := args
  match l, h with
  | [], h => exact h.elim
  | [v], h =>
    obtain ⟨h1, h2⟩ : [v] = [Value.int .i64 x] ∧ IR .i64 x := h.1
    injection h1 with h1
    subst h1
    rfl
  | _ :: _ :: _, h => exact h.2.elim
theorem arg_ss {S : Nat → Prop} {w : World} {args : Array Value} {x y : List Int} {u : Unit} (h : RdVs S w [.str, .str] args.toList (x, y, u)) : args = #[.string (mkStr x), .string (mkStr y)] ∧ isBytes x ∧ isBytes y := by
  obtain ⟨l⟩ := args
  match l, h with
  | [], h => exact h.elim
  | [_], h => exact h.2.elim
  | [v, v'], h =>
    obtain ⟨h1, h2⟩ : [v] = [Value.string (mkStr x)] ∧ isBytes x := h.1
    obtain ⟨h3, h4⟩ : [v'] = [Value.string (mkStr y)] ∧ isBytes y := h.2.1
    injection h1 with h1
    injection h3 with h3
    subst h1 h3
    exact ⟨rfl, h2, h4⟩
  | _ :: _ :: _ :: _, h => exact h.2.2.elim
theorem glNum {w : World} (h : GlOk w) : ∃ m, w.cell? ⟨1, 0, none⟩ = some (.int .i64 m) := (h (1, .num) (by simp [seatGl])).2
theorem glSyn {w : World} (h : GlOk w) : ∃ tp p, w.cell? ⟨4, 0, none⟩ = some (.iface tp p) := (h (4, .err) (by simp [seatGl])).2
theorem glRan {w : World} (h : GlOk w) : ∃ tp p, w.cell? ⟨5, 0, none⟩ = some (.iface tp p) := (h (5, .err) (by simp [seatGl])).2
theorem cut_len (s t : List UInt8) : (Lib.cut s t).1.length ≤ s.length ∧ (Lib.cut s t).2.1.length ≤ s.length := by
  unfold Lib.cut
  split
  · simp only [List.length_take, List.length_drop]
    omega
  · simp
theorem c_cut : CtrOk Tryz.prog 46 cCut := by
  refine ⟨⟨Tryz.f46, Tryz.func46, by kernel_rfl, by kernel_rfl⟩, fun S w args x hS hgl hargs hpre => ?_⟩
  obtain ⟨a, b, u⟩ := x
  obtain ⟨rfl, ha, hb⟩ := arg_ss hargs
  have hlen : a.length ≤ 1048576 := hpre.1
  obtain ⟨m, hm⟩ := glNum hgl
  refine (Any.strings_Cut cutL (mkStr a) (mkStr b) m w (by rw [mkStr_size]; omega) hm).mono fun e w' h => ?_
  obtain ⟨rfl, n, rfl⟩ := h
  have h1 := cut_len (by8 a) (by8 b)
  rw [by8_length] at h1
  rw [by8_mkStr, by8_mkStr]
  exact ⟨_, rfl, ⟨_, rfl, rd_str (by omega), rd_str (by omega), rd_bool, trivial⟩, ⟨rfl, rfl, rfl, Nat.le_refl _, fun _ _ => rfl⟩⟩
end Go.Proofs.YtdhldloajddfiaaGreatDoor.Bench
namespace Go.Proofs.YtdhldloajddfiaaGreatDoor.Bench
open Go.Sx
set_option maxRecDepth 100000
set_option maxHeartbeats 4000000
set_option linter.unusedSimpArgs false
set_option linter.unusedVariables false

open Go Go.Proofs Go.RowKit
theorem glPow {w : World} (h : GlOk w) : Lib.TabIs Tryz.prog w "internal/strconv.uint64pow10" .u64 Lib.pow10Tab := by
  have h' : Gl.ok w 0 (.u64 Lib.pow10Tab) := (h (0, .u64 Lib.pow10Tab) (by simp [seatGl])).2
  unfold Gl.ok at h'
  obtain ⟨e, fz, hb⟩ := h'
  unfold Lib.TabIs World.var?
  rw [show Tryz.prog.globalNamed "internal/strconv.uint64pow10" = some 0 by kernel_rfl]
  simp only [Option.bind_some, hb]
theorem nDigits_le {u : Nat} (h : u < 18446744073709551616) : (Lib.decDigits u).length ≤ 20 := by
  rw [Lib.decDigits_length]
  by_cases h1 : 1 ≤ u
  · have := Lib.numDigits_eq u h1 h
    split at this <;> omega
  · have : u = 0 := by omega
    subst this
    rw [Lib.nDigits_small (by omega)]
    omega
theorem c_itoa : CtrOk Tryz.prog 10 cItoa := by
  refine ⟨⟨Tryz.f10, Tryz.func10, by kernel_rfl, by kernel_rfl⟩, fun S w args x hS hgl hargs hpre => ?_⟩
  obtain ⟨n, u⟩ := x
  change Int at n
  obtain rfl := arg_i hargs
  have h0 : (0 : Int) ≤ n := hpre.1
  have h1 : n ≤ (1099511627776 : Int) := hpre.2
  refine (Any.strconv_Itoa itoaL n (by omega) (by omega) w (glPow hgl)).mono fun e w' h => ?_
  obtain ⟨rfl, k, os, rfl⟩ := h
  have e1 : Lib.itoa n = Lib.decDigits n.toNat := by unfold Lib.itoa; rw [if_neg (by omega)]
  rw [e1]
  have h2 := nDigits_le (u := n.toNat) (by omega)
  refine ⟨_, rfl, ?_, Lib.below_grow _ w (Nat.le_refl _) k os⟩
  exact rd_str (S := S) (w := w) (by omega)
theorem rd_err0 {S : Nat → Prop} {w : World} : RdV S w .err .nilIface false := by
  show Rd S w .err [.nilIface] false
  exact .inl ⟨rfl, rfl⟩
theorem rd_err1 {S : Nat → Prop} {w : World} {t : TypeId} {v : Value} : RdV S w .err (.iface t v) true := by
  show Rd S w .err [.iface t v] true
  exact .inr ⟨rfl, t, v, rfl⟩
theorem rd_i64 {S : Nat → Prop} {w : World} {n : Int} (h0 : -9223372036854775808 ≤ n) (h1 : n ≤ 9223372036854775807) : RdV S w I64 (.int .i64 n) n := by
  show Rd S w I64 [.int .i64 n] n
  exact ⟨rfl, h0, h1⟩
theorem ends_int (x : Lib.NumEnd Int) : (∃ v, x = .ok v) ∨ x = .range ∨ x = Lib.atoiAll [] := by
  cases x
  · exact .inl ⟨_, rfl⟩
  · exact .inr (.inr rfl)
  · exact .inr (.inl rfl)
theorem c_atoi : CtrOk Tryz.prog 61 cAtoi := by
  refine ⟨⟨Tryz.f61, Tryz.func61, by kernel_rfl, by kernel_rfl⟩, fun S w args x hS hgl hargs hpre => ?_⟩
  obtain ⟨s, u⟩ := x
  obtain ⟨rfl, hs⟩ := arg_s hargs
  have hlen : s.length ≤ 1048576 := hpre
  have hsz : (mkStr s).size ≤ 281474976710656 := by rw [mkStr_size]; omega
  rcases ends_int (Lib.atoiAll (by8 s)) with ⟨v, h⟩ | h | h
  · have hb := Lib.atoiAll_bounds h
    have eV : atoiV s = v := by unfold atoiV; rw [h]
    have eE : atoiE s = false := by unfold atoiE; rw [h]
    rw [← by8_mkStr] at h
    refine (Any.strconv_Atoi_ok atoiL (mkStr s) (by omega) v h w).mono fun e w' h => ?_
    obtain ⟨rfl, hw⟩ := h
    refine ⟨_, rfl, ⟨_, rfl, ?_, ?_, trivial⟩, ?_⟩
    · show RdV S w I64 (.int .i64 v) (atoiV s)
      rw [eV]
      exact rd_i64 (by omega) (by omega)
    · show RdV S w .err .nilIface (atoiE s)
      rw [eE]
      exact rd_err0
    · rcases hw with rfl | ⟨t, rfl⟩
      · exact Below.refl _ _
      · exact Lib.bytesWorld_below _ _ _
  · have eV : atoiV s = Lib.atoiSat (by8 s) := by unfold atoiV; rw [h]
    have eE : atoiE s = true := by unfold atoiE; rw [h]
    rw [← by8_mkStr] at h
    obtain ⟨tp, p, hv⟩ := glRan hgl
    refine (Any.strconv_Atoi_range atoiL (mkStr s) hsz h (.iface tp p) w hv (.inr ⟨_, _, rfl⟩)).mono fun e w' h => ?_
    obtain ⟨N, rfl, -, -, hb⟩ := h
    refine ⟨_, rfl, ⟨_, rfl, ?_, ?_, trivial⟩, hb⟩
    · show RdV S w I64 (.int .i64 (Lib.atoiSat (mkStr s).data.toList)) (atoiV s)
      rw [eV, by8_mkStr]
      have : Lib.atoiSat (by8 s) = -9223372036854775808 ∨ Lib.atoiSat (by8 s) = 9223372036854775807 := by unfold Lib.atoiSat; split <;> simp
      exact rd_i64 (by omega) (by omega)
    · show RdV S w .err (.iface _ _) (atoiE s)
      rw [eE]
      exact rd_err1
  · have eV : atoiV s = 0 := by unfold atoiV; rw [h]; rfl
    have eE : atoiE s = true := by unfold atoiE; rw [h]; rfl
    rw [← by8_mkStr] at h
    obtain ⟨tp, p, hv⟩ := glSyn hgl
    refine (Any.strconv_Atoi_syntax atoiL (mkStr s) hsz h (.iface tp p) w hv (.inr ⟨_, _, rfl⟩)).mono fun e w' h => ?_
    obtain ⟨N, rfl, -, -, hb⟩ := h
    refine ⟨_, rfl, ⟨_, rfl, ?_, ?_, trivial⟩, hb⟩
    · show RdV S w I64 (.int .i64 0) (atoiV s)
      rw [eV]
      exact rd_i64 (by omega) (by omega)
    · show RdV S w .err (.iface _ _) (atoiE s)
      rw [eE]
      exact rd_err1
end Go.Proofs.YtdhldloajddfiaaGreatDoor.Bench
namespace Go.Proofs.YtdhldloajddfiaaGreatDoor.Bench
open Go.Sx
set_option maxRecDepth 100000
set_option maxHeartbeats 4000000
set_option linter.unusedSimpArgs false
set_option linter.unusedVariables false

open Go Go.Proofs Go.RowKit Go.Shelf
theorem bX : Builder.Extra Tryz.prog bstrL_ren where
  sizeBuilder := by kernel_rfl
  liesBuilder := by kernel_rfl
  t5 := Tryz.underlying5
  a5 := Tryz.isAgg5
  z5 := Tryz.sizeOf5
  v5 := Tryz.zeroValue5
  infoByte := by kernel_rfl
  cellsByte := by kernel_rfl
  sizeByte := by kernel_rfl
  neB5 := by decide
theorem check_used (b : Nat) (w : World) (h0 : w.cell? ⟨b, 0, none⟩ = some (.pointer (some ⟨b, 0, none⟩))) :
    Calls Tryz.prog 40 #[.pointer (some ⟨b, 0, none⟩)] w fun e w' => e = .returned (.tuple #[]) ∧ w' = w := by
  obtain ⟨j, hj, _⟩ := Option.map_eq_some_iff.1 (show (Tryz.prog.info? 62).map (·.size) = some 2 by kernel_rfl)
  go_enter Tryz.func40, Tryz.ntmps40
  go_wp2
  rw [Lib.run_neq_ptr_same w _ Tryz.underlying60 hj]
  go_wp2
  go_end0
  exact ⟨rfl, rfl⟩
theorem check_fresh (b : Nat) (w : World) (h0 : w.cell? ⟨b, 0, none⟩ = some (.pointer none)) (hsh : w.shape? b = some (62, 2)) (hfz : w.frozen? ⟨b, 0, none⟩ = false) :
    Calls Tryz.prog 40 #[.pointer (some ⟨b, 0, none⟩)] w fun e w' => e = .returned (.tuple #[]) ∧ w' = w.setCell ⟨b, 0, none⟩ (.pointer (some ⟨b, 0, none⟩)) := by
  obtain ⟨j, hj, hjs⟩ := Option.map_eq_some_iff.1 (show (Tryz.prog.info? 62).map (·.size) = some 2 by kernel_rfl)
  go_enter Tryz.func40, Tryz.ntmps40
  go_wp2
  rw [Lib.run_to_unsafe w ⟨b, 0, none⟩ Tryz.underlying60 Tryz.underlying126 hj (by rw [hjs]; decide) hsh (Nat.zero_lt_succ 1)]
  simp only [Result.andThen]
  rw [Oper.upon_value]
  go_wp2
  rw [run_callFunc_extern Tryz.func53 (by kernel_rfl) (by kernel_rfl) (by kernel_rfl) (e := Extern.AbiNoEscape.same) (by kernel_rfl)]
  rw [Lib.run_noEscape]
  simp only [Result.andThen]
  rw [Oper.upon_value]
  go_wp2
  rw [Lib.run_from_unsafe w ⟨b, 0, none⟩ Tryz.underlying126 Tryz.underlying60 hj hsh (by kernel_rfl)]
  simp only [Result.andThen]
  rw [Oper.upon_value]
  go_wp2
  go_end0
  exact ⟨rfl, rfl⟩
theorem check_calls (B b : Nat) (bs : List Value) (w : World) (h : Lib.IsBuilder 62 5 B b bs w) :
    Calls Tryz.prog 40 #[.pointer (some ⟨b, 0, none⟩)] w fun e w' => e = .returned (.tuple #[]) ∧ (Lib.BuilderAt 62 5 B b (.pointer (some ⟨b, 0, none⟩)) bs w' ∧ Below B w w') := by
  rcases h with h | h
  · refine (check_fresh b w h.cell0 h.shape h.frozen0).mono ?_
    rintro e w' ⟨rfl, rfl⟩
    exact ⟨rfl, h.used _, (Below.refl B w).setCell (p := ⟨b, 0, none⟩) h.1 _⟩
  · refine (check_used b w h.cell0).mono ?_
    rintro e w' ⟨rfl, rfl⟩
    exact ⟨rfl, h, Below.refl B _⟩
end Go.Proofs.YtdhldloajddfiaaGreatDoor.Bench
