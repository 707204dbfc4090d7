/-
  strings.Cut, strconv.Itoa, strconv.Atoi keep their contracts.
-/
import Derived.Test.YtjafnenkgmbgaaaDoorBenchC
import Derived.Test.YtjafnenkgmbgaaaDoorBenchH0
import Derived.WalkKit
import Derived.Lib.AtoiErrMem
namespace Go.Proofs.YtjafnenkgmbgaaaDoor.Bench
open Go.Sx
set_option maxRecDepth 100000
set_option maxHeartbeats 4000000
set_option linter.unusedSimpArgs false
set_option linter.unusedVariables false

open Go Go.Proofs Go.RowKit
theorem by8_mkStr (l : List Int) : (mkStr l).data.toList = by8 l := by
  simp [mkStr, by8]
theorem un8_by8 {l : List Int} (h : isBytes l) : un8 (by8 l) = l := by
  unfold un8 by8
  rw [List.map_map]
  conv => rhs; rw [← List.map_id l]
  refine List.map_congr_left fun n hn => ?_
  have := h.2 n hn
  show (((UInt8.ofNat n.toNat).toNat : Nat) : Int) = n
  rw [UInt8.toNat_ofNat']
  omega
theorem by8_un8 (l : List UInt8) : by8 (un8 l) = l := by
  unfold un8 by8
  rw [List.map_map]
  conv => rhs; rw [← List.map_id l]
  refine List.map_congr_left fun n hn => ?_
  show UInt8.ofNat ((n.toNat : Int)).toNat = n
  rw [Int.toNat_natCast]
  simp
theorem mkStr_un8 (l : List UInt8) : mkStr (un8 l) = ⟨l.toArray⟩ := by
  have : mkStr (un8 l) = ⟨(by8 (un8 l)).toArray⟩ := rfl
  rw [this, by8_un8]
theorem isBytes_un8 {l : List UInt8} (h : l.length ≤ 9223372036854775807) : isBytes (un8 l) := by
  refine ⟨by unfold un8; rw [List.length_map]; exact h, ?_⟩
  intro b hb
  obtain ⟨c, -, rfl⟩ := List.mem_map.1 hb
  have := c.toNat_lt
  omega
theorem by8_length (l : List Int) : (by8 l).length = l.length := by unfold by8; rw [List.length_map]
theorem rd_str {S : Nat → Prop} {w : World} {l : List UInt8} (h : l.length ≤ 9223372036854775807) : RdV S w .str (.string ⟨l.toArray⟩) (un8 l) := by
  show Rd S w .str [.string ⟨l.toArray⟩] (un8 l)
  exact ⟨by rw [mkStr_un8], isBytes_un8 h⟩
theorem rd_bool {S : Nat → Prop} {w : World} {b : Bool} : RdV S w .bool (.bool b) b := by
  show Rd S w .bool [.bool b] b
  rfl
theorem arg_s {S : Nat → Prop} {w : World} {args : Array Value} {x : List Int} {u : Unit} (h : RdVs S w [.str] args.toList (x, u)) : args = #[.string (mkStr x)] ∧ isBytes x := by
  obtain ⟨l⟩ := args
  match l, h with
  | [], h => exact h.elim
  | [v], h =>
    obtain ⟨h1, h2⟩ : [v] = [Value.string (mkStr x)] ∧ isBytes x := h.1
    injection h1 with h1
    subst h1
    exact ⟨rfl, h2⟩
  | _ :: _ :: _, h => exact h.2.elim
theorem arg_i {S : Nat → Prop} {w : World} {args : Array Value} {x : Int} {u : Unit} (h : RdVs S w [I64] args.toList (x, u)) : args = #[.int .i64 x] := by
  obtain ⟨l⟩ := args
  match l, h with
  | [], h => exact h.elim
  | [v], h =>
    obtain ⟨h1, h2⟩ : [v] = [Value.int .i64 x] ∧ IR .i64 x := h.1
    injection h1 with h1
    subst h1
    rfl
  | _ :: _ :: _, h => exact h.2.elim
theorem arg_ss {S : Nat → Prop} {w : World} {args : Array Value} {x y : List Int} {u : Unit} (h : RdVs S w [.str, .str] args.toList (x, y, u)) : args = #[.string (mkStr x), .string (mkStr y)] ∧ isBytes x ∧ isBytes y := by
  obtain ⟨l⟩ := args
  match l, h with
  | [], h => exact h.elim
  | [_], h => exact h.2.elim
  | [v, v'], h =>
    obtain ⟨h1, h2⟩ : [v] = [Value.string (mkStr x)] ∧ isBytes x := h.1
    obtain ⟨h3, h4⟩ : [v'] = [Value.string (mkStr y)] ∧ isBytes y := h.2.1
    injection h1 with h1
    injection h3 with h3
    subst h1 h3
    exact ⟨rfl, h2, h4⟩
  | _ :: _ :: _ :: _, h => exact h.2.2.elim
theorem glNum {w : World} (h : GlOk w) : ∃ m, w.cell? ⟨0, 0, none⟩ = some (.int .i64 m) := (h (0, .num) (by simp [seatGl])).2
theorem glSyn {w : World} (h : GlOk w) : ∃ tp p, w.cell? ⟨2, 0, none⟩ = some (.iface tp p) := (h (2, .err) (by simp [seatGl])).2
theorem glRan {w : World} (h : GlOk w) : ∃ tp p, w.cell? ⟨3, 0, none⟩ = some (.iface tp p) := (h (3, .err) (by simp [seatGl])).2
theorem cut_len (s t : List UInt8) : (Lib.cut s t).1.length ≤ s.length ∧ (Lib.cut s t).2.1.length ≤ s.length := by
  unfold Lib.cut
  split
  · simp only [List.length_take, List.length_drop]
    omega
  · simp
theorem c_cut : CtrOk Tryd.prog 14 cCut := by
  refine ⟨⟨Tryd.f14, Tryd.func14, by kernel_rfl, by kernel_rfl⟩, fun S w args x hS hgl hargs hpre => ?_⟩
  obtain ⟨a, b, u⟩ := x
  obtain ⟨rfl, ha, hb⟩ := arg_ss hargs
  have hlen : a.length ≤ 1048576 := hpre.1
  obtain ⟨m, hm⟩ := glNum hgl
  refine (Any.strings_Cut cutL (mkStr a) (mkStr b) m w (by rw [mkStr_size]; omega) hm).mono fun e w' h => ?_
  obtain ⟨rfl, n, rfl⟩ := h
  have h1 := cut_len (by8 a) (by8 b)
  rw [by8_length] at h1
  rw [by8_mkStr, by8_mkStr]
  exact ⟨_, rfl, ⟨_, rfl, rd_str (by omega), rd_str (by omega), rd_bool, trivial⟩, ⟨rfl, rfl, rfl, Nat.le_refl _, fun _ _ => rfl⟩⟩

end Go.Proofs.YtjafnenkgmbgaaaDoor.Bench
