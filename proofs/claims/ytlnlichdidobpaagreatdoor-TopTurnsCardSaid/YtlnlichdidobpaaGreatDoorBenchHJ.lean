/-
  Contracts proved by hand.
-/
import Derived.Test.YtlnlichdidobpaaGreatDoorBenchC
import Derived.Test.YtlnlichdidobpaaGreatDoorBenchH0
import Derived.WalkKit
import Derived.Lib.AtoiErrMem
import Derived.Lib.AppendIntMem
import Derived.BigCall
import Derived.Lib.Builder
import Derived.Lib.AppendStr
import Derived.Lib.UnsafeStr
import Derived.Lib.MakeNoZero
import Derived.Laws.Externs
import Derived.Laws.IdiomCopy
import Derived.Shelf.Strings.Builder1
namespace Go.Proofs.YtlnlichdidobpaaGreatDoor.Bench
open Go.Sx
set_option maxRecDepth 100000
set_option maxHeartbeats 4000000
set_option linter.unusedSimpArgs false
set_option linter.unusedVariables false

open Go Go.Proofs Go.RowKit
theorem ji (l : List Int) : (mkStr l).data.toList = gA l := by
  simp [mkStr, gA]
theorem LQ (l : List UInt8) : gA (wW l) = l := by
  unfold wW gA
  rw [List.map_map]
  conv => rhs; rw [← List.map_id l]
  refine List.map_congr_left fun n hn => ?_
  show UInt8.ofNat ((n.toNat : Int)).toNat = n
  rw [Int.toNat_natCast]
  simp
theorem Ff (l : List UInt8) : mkStr (wW l) = ⟨l.toArray⟩ := by
  have : mkStr (wW l) = ⟨(gA (wW l)).toArray⟩ := rfl
  rw [this, LQ]
theorem Bc {l : List UInt8} (h : l.length ≤ 9223372036854775807) : bN (wW l) := by
  refine ⟨by unfold wW; rw [List.length_map]; exact h, ?_⟩
  intro b hb
  obtain ⟨c, -, rfl⟩ := List.mem_map.1 hb
  have := c.toNat_lt
  omega
theorem Cj (l : List Int) : (gA l).length = l.length := by unfold gA; rw [List.length_map]
theorem yX {S : Nat → Prop} {w : World} {l : List UInt8} (h : l.length ≤ 9223372036854775807) : mY S w .str (.string ⟨l.toArray⟩) (wW l) := by
  show Rd S w .str [.string ⟨l.toArray⟩] (wW l)
  exact ⟨by rw [Ff], Bc h⟩
theorem N7 {S : Nat → Prop} {w : World} {b : Bool} : mY S w .bool (.bool b) b := by
  show Rd S w .bool [.bool b] b
  rfl
theorem Uj {S : Nat → Prop} {w : World} {args : Array Value} {x : List Int} {u : Unit} (h : fw S w [.str] args.toList (x, u)) : args = #[.string (mkStr x)] ∧ bN x := by
  obtain ⟨l⟩ := args
  match l, h with
  | [], h => exact h.elim
  | [v], h =>
    obtain ⟨h1, h2⟩ : [v] = [Value.string (mkStr x)] ∧ bN x := h.1
    injection h1 with h1
    subst h1
    exact ⟨rfl, h2⟩
  | _ :: _ :: _, h => exact h.2.elim
theorem Ro {S : Nat → Prop} {w : World} {args : Array Value} {x : Int} {u : Unit} (h : fw S w [dU] args.toList (x, u)) : args = #[.int .i64 x] := by
  obtain ⟨l⟩ := args
  match l, h with
  | [], h => exact h.elim
  | [v], h =>
    obtain ⟨h1, h2⟩ : [v] = [Value.int .i64 x] ∧ IR .i64 x := h.1
    injection h1 with h1
    subst h1
    rfl
  | _ :: _ :: _, h => exact h.2.elim
theorem R7 {S : Nat → Prop} {w : World} {args : Array Value} {x y : List Int} {u : Unit} (h : fw S w [.str, .str] args.toList (x, y, u)) : args = #[.string (mkStr x), .string (mkStr y)] ∧ bN x ∧ bN y := by
  obtain ⟨l⟩ := args
  match l, h with
  | [], h => exact h.elim
  | [_], h => exact h.2.elim
  | [v, v'], h =>
    obtain ⟨h1, h2⟩ : [v] = [Value.string (mkStr x)] ∧ bN x := h.1
    obtain ⟨h3, h4⟩ : [v'] = [Value.string (mkStr y)] ∧ bN y := h.2.1
    injection h1 with h1
    injection h3 with h3
    subst h1 h3
    exact ⟨rfl, h2, h4⟩
  | _ :: _ :: _ :: _, h => exact h.2.2.elim
theorem TZ {w : World} (h : qC w) : ∃ m, w.cell? ⟨0, 0, none⟩ = some (.int .i64 m) := (h (0, .num) (by simp [qe])).2
theorem To {w : World} (h : qC w) : ∃ tp p, w.cell? ⟨2, 0, none⟩ = some (.iface tp p) := (h (2, .err) (by simp [qe])).2
theorem Tx {w : World} (h : qC w) : ∃ tp p, w.cell? ⟨3, 0, none⟩ = some (.iface tp p) := (h (3, .err) (by simp [qe])).2
theorem LW (s t : List UInt8) : (Lib.cut s t).1.length ≤ s.length ∧ (Lib.cut s t).2.1.length ≤ s.length := by
  unfold Lib.cut
  split
  · simp only [List.length_take, List.length_drop]
    omega
  · simp
theorem U5 : aX Tryz.prog 26 SY := by
  refine ⟨⟨Tryz.f26, Tryz.func26, by kernel_rfl, by kernel_rfl⟩, fun S w args x hS hgl hargs hpre => ?_⟩
  obtain ⟨a, b, u⟩ := x
  obtain ⟨rfl, ha, hb⟩ := R7 hargs
  have hlen : a.length ≤ 1048576 := hpre.1
  obtain ⟨m, hm⟩ := TZ hgl
  refine (Any.strings_Cut Vm (mkStr a) (mkStr b) m w (by rw [dh]; omega) hm).mono fun e w' h => ?_
  obtain ⟨rfl, n, rfl⟩ := h
  have h1 := LW (gA a) (gA b)
  rw [Cj] at h1
  rw [ji, ji]
  exact ⟨_, rfl, ⟨_, rfl, yX (by omega), yX (by omega), N7, trivial⟩, ⟨rfl, rfl, rfl, Nat.le_refl _, fun _ _ => rfl⟩⟩
end Go.Proofs.YtlnlichdidobpaaGreatDoor.Bench
namespace Go.Proofs.YtlnlichdidobpaaGreatDoor.Bench
open Go.Sx
set_option maxRecDepth 100000
set_option maxHeartbeats 4000000
set_option linter.unusedSimpArgs false
set_option linter.unusedVariables false

open Go Go.Proofs Go.RowKit
theorem Qq {w : World} (h : qC w) : Lib.TabIs Tryz.prog w "internal/strconv.uint64pow10" .u64 Lib.pow10Tab := by
  have h' : Gl.ok w 1 (.u64 Lib.pow10Tab) := (h (1, .u64 Lib.pow10Tab) (by simp [qe])).2
  unfold Gl.ok at h'
  obtain ⟨e, fz, hb⟩ := h'
  unfold Lib.TabIs World.var?
  rw [show Tryz.prog.globalNamed "internal/strconv.uint64pow10" = some 1 by kernel_rfl]
  simp only [Option.bind_some, hb]
theorem uo {u : Nat} (h : u < 18446744073709551616) : (Lib.decDigits u).length ≤ 20 := by
  rw [Lib.decDigits_length]
  by_cases h1 : 1 ≤ u
  · have := Lib.numDigits_eq u h1 h
    split at this <;> omega
  · have : u = 0 := by omega
    subst this
    rw [Lib.nDigits_small (by omega)]
    omega
theorem SF : aX Tryz.prog 17 Pv := by
  refine ⟨⟨Tryz.f17, Tryz.func17, by kernel_rfl, by kernel_rfl⟩, fun S w args x hS hgl hargs hpre => ?_⟩
  obtain ⟨n, u⟩ := x
  change Int at n
  obtain rfl := Ro hargs
  have h0 : (0 : Int) ≤ n := hpre.1
  have h1 : n ≤ (1099511627776 : Int) := hpre.2
  refine (Any.strconv_Itoa QU n (by omega) (by omega) w (Qq hgl)).mono fun e w' h => ?_
  obtain ⟨rfl, k, os, rfl⟩ := h
  have e1 : Lib.itoa n = Lib.decDigits n.toNat := by unfold Lib.itoa; rw [if_neg (by omega)]
  rw [e1]
  have h2 := uo (u := n.toNat) (by omega)
  refine ⟨_, rfl, ?_, Lib.below_grow _ w (Nat.le_refl _) k os⟩
  exact yX (S := S) (w := w) (by omega)
theorem Ou {S : Nat → Prop} {w : World} : mY S w .err .nilIface false := by
  show Rd S w .err [.nilIface] false
  exact .inl ⟨rfl, rfl⟩
theorem D4 {S : Nat → Prop} {w : World} {t : TypeId} {v : Value} : mY S w .err (.iface t v) true := by
  show Rd S w .err [.iface t v] true
  exact .inr ⟨rfl, t, v, rfl⟩
theorem Dq {S : Nat → Prop} {w : World} {n : Int} (h0 : -9223372036854775808 ≤ n) (h1 : n ≤ 9223372036854775807) : mY S w dU (.int .i64 n) n := by
  show Rd S w dU [.int .i64 n] n
  exact ⟨rfl, h0, h1⟩
theorem IY (x : Lib.NumEnd Int) : (∃ v, x = .ok v) ∨ x = .range ∨ x = Lib.atoiAll [] := by
  cases x
  · exact .inl ⟨_, rfl⟩
  · exact .inr (.inr rfl)
  · exact .inr (.inl rfl)
theorem Sa : aX Tryz.prog 56 Qi := by
  refine ⟨⟨Tryz.f56, Tryz.func56, by kernel_rfl, by kernel_rfl⟩, fun S w args x hS hgl hargs hpre => ?_⟩
  obtain ⟨s, u⟩ := x
  obtain ⟨rfl, hs⟩ := Uj hargs
  have hlen : s.length ≤ 1048576 := hpre
  have hsz : (mkStr s).size ≤ 281474976710656 := by rw [dh]; omega
  rcases IY (Lib.atoiAll (gA s)) with ⟨v, h⟩ | h | h
  · have hb := Lib.atoiAll_bounds h
    have eV : fk s = v := by unfold fk; rw [h]
    have eE : eK s = false := by unfold eK; rw [h]
    rw [← ji] at h
    refine (Any.strconv_Atoi_ok Ja (mkStr s) (by omega) v h w).mono fun e w' h => ?_
    obtain ⟨rfl, hw⟩ := h
    refine ⟨_, rfl, ⟨_, rfl, ?_, ?_, trivial⟩, ?_⟩
    · show mY S w dU (.int .i64 v) (fk s)
      rw [eV]
      exact Dq (by omega) (by omega)
    · show mY S w .err .nilIface (eK s)
      rw [eE]
      exact Ou
    · rcases hw with rfl | ⟨t, rfl⟩
      · exact Below.refl _ _
      · exact Lib.bytesWorld_below _ _ _
  · have eV : fk s = Lib.atoiSat (gA s) := by unfold fk; rw [h]
    have eE : eK s = true := by unfold eK; rw [h]
    rw [← ji] at h
    obtain ⟨tp, p, hv⟩ := Tx hgl
    refine (Any.strconv_Atoi_range Ja (mkStr s) hsz h (.iface tp p) w hv (.inr ⟨_, _, rfl⟩)).mono fun e w' h => ?_
    obtain ⟨N, rfl, -, -, hb⟩ := h
    refine ⟨_, rfl, ⟨_, rfl, ?_, ?_, trivial⟩, hb⟩
    · show mY S w dU (.int .i64 (Lib.atoiSat (mkStr s).data.toList)) (fk s)
      rw [eV, ji]
      have : Lib.atoiSat (gA s) = -9223372036854775808 ∨ Lib.atoiSat (gA s) = 9223372036854775807 := by unfold Lib.atoiSat; split <;> simp
      exact Dq (by omega) (by omega)
    · show mY S w .err (.iface _ _) (eK s)
      rw [eE]
      exact D4
  · have eV : fk s = 0 := by unfold fk; rw [h]; rfl
    have eE : eK s = true := by unfold eK; rw [h]; rfl
    rw [← ji] at h
    obtain ⟨tp, p, hv⟩ := To hgl
    refine (Any.strconv_Atoi_syntax Ja (mkStr s) hsz h (.iface tp p) w hv (.inr ⟨_, _, rfl⟩)).mono fun e w' h => ?_
    obtain ⟨N, rfl, -, -, hb⟩ := h
    refine ⟨_, rfl, ⟨_, rfl, ?_, ?_, trivial⟩, hb⟩
    · show mY S w dU (.int .i64 0) (fk s)
      rw [eV]
      exact Dq (by omega) (by omega)
    · show mY S w .err (.iface _ _) (eK s)
      rw [eE]
      exact D4
end Go.Proofs.YtlnlichdidobpaaGreatDoor.Bench
namespace Go.Proofs.YtlnlichdidobpaaGreatDoor.Bench
open Go.Sx
set_option maxRecDepth 100000
set_option maxHeartbeats 4000000
set_option linter.unusedSimpArgs false
set_option linter.unusedVariables false

open Go Go.Proofs Go.RowKit Go.Shelf
theorem bX : Builder.Extra Tryz.prog xC where
  sizeBuilder := by kernel_rfl
  liesBuilder := by kernel_rfl
  t5 := Tryz.underlying5
  a5 := Tryz.isAgg5
  z5 := Tryz.sizeOf5
  v5 := Tryz.zeroValue5
  infoByte := by kernel_rfl
  cellsByte := by kernel_rfl
  sizeByte := by kernel_rfl
  neB5 := by decide
theorem CH (b : Nat) (w : World) (h0 : w.cell? ⟨b, 0, none⟩ = some (.pointer (some ⟨b, 0, none⟩))) :
    Calls Tryz.prog 66 #[.pointer (some ⟨b, 0, none⟩)] w fun e w' => e = .returned (.tuple #[]) ∧ w' = w := by
  obtain ⟨j, hj, _⟩ := Option.map_eq_some_iff.1 (show (Tryz.prog.info? 112).map (·.size) = some 2 by kernel_rfl)
  go_enter Tryz.func66, Tryz.ntmps66
  go_wp2
  rw [Lib.run_neq_ptr_same w _ Tryz.underlying110 hj]
  go_wp2
  go_end0
  exact ⟨rfl, rfl⟩
theorem AQ (b : Nat) (w : World) (h0 : w.cell? ⟨b, 0, none⟩ = some (.pointer none)) (hsh : w.shape? b = some (112, 2)) (hfz : w.frozen? ⟨b, 0, none⟩ = false) :
    Calls Tryz.prog 66 #[.pointer (some ⟨b, 0, none⟩)] w fun e w' => e = .returned (.tuple #[]) ∧ w' = w.setCell ⟨b, 0, none⟩ (.pointer (some ⟨b, 0, none⟩)) := by
  obtain ⟨j, hj, hjs⟩ := Option.map_eq_some_iff.1 (show (Tryz.prog.info? 112).map (·.size) = some 2 by kernel_rfl)
  go_enter Tryz.func66, Tryz.ntmps66
  go_wp2
  rw [Lib.run_to_unsafe w ⟨b, 0, none⟩ Tryz.underlying110 Tryz.underlying183 hj (by rw [hjs]; decide) hsh (Nat.zero_lt_succ 1)]
  simp only [Result.andThen]
  rw [Oper.upon_value]
  go_wp2
  rw [run_callFunc_extern Tryz.func94 (by kernel_rfl) (by kernel_rfl) (by kernel_rfl) (e := Extern.AbiNoEscape.same) (by kernel_rfl)]
  rw [Lib.run_noEscape]
  simp only [Result.andThen]
  rw [Oper.upon_value]
  go_wp2
  rw [Lib.run_from_unsafe w ⟨b, 0, none⟩ Tryz.underlying183 Tryz.underlying110 hj hsh (by kernel_rfl)]
  simp only [Result.andThen]
  rw [Oper.upon_value]
  go_wp2
  go_end0
  exact ⟨rfl, rfl⟩
theorem z6 (B b : Nat) (bs : List Value) (w : World) (h : Lib.IsBuilder 112 5 B b bs w) :
    Calls Tryz.prog 66 #[.pointer (some ⟨b, 0, none⟩)] w fun e w' => e = .returned (.tuple #[]) ∧ (Lib.BuilderAt 112 5 B b (.pointer (some ⟨b, 0, none⟩)) bs w' ∧ Below B w w') := by
  rcases h with h | h
  · refine (AQ b w h.cell0 h.shape h.frozen0).mono ?_
    rintro e w' ⟨rfl, rfl⟩
    exact ⟨rfl, h.used _, (Below.refl B w).setCell (p := ⟨b, 0, none⟩) h.1 _⟩
  · refine (CH b w h.cell0).mono ?_
    rintro e w' ⟨rfl, rfl⟩
    exact ⟨rfl, h, Below.refl B _⟩
end Go.Proofs.YtlnlichdidobpaaGreatDoor.Bench
