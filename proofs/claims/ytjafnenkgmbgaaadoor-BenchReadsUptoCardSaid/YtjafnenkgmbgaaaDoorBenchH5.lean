/-
  strconv.ParseUint at base 10 and 41 bits keeps its contract.
-/
import Derived.Test.YtjafnenkgmbgaaaDoorBenchC
import Derived.Test.YtjafnenkgmbgaaaDoorBenchH4
import Derived.WalkKit
import Derived.BigCall
import Derived.Lib.AtoiErrMem
import Derived.Lib.ParseIntBCases
import Derived.Shelf.Strconv.ToErrorRange
import Derived.Shelf.Strconv.ToError
namespace Go.Proofs.YtjafnenkgmbgaaaDoor.Bench
open Go.Sx
set_option maxRecDepth 100000
set_option maxHeartbeats 4000000
set_option linter.unusedSimpArgs false
set_option linter.unusedVariables false

open Go Go.Proofs Go.RowKit Go.Shelf
theorem pu_inner (t : ByteArray) (hmax : t.size ≤ 9223372036854775806) (w : World) :
    Calls Tryd.prog 30 #[.string t, .int .i64 10, .int .i64 41] w fun e w' => e = .returned (Lib.uintTupleM 73 2199023255551 (Lib.parseUintB 41 t.data.toList)) ∧ Below w.heap.size w w' := by
  by_cases h : t.size = 0
  · have ht : t = ByteArray.empty := by
      obtain ⟨d⟩ := t
      have hd : d = #[] := Array.eq_empty_of_size_eq_zero h
      subst hd
      rfl
    subst ht
    refine (pu_empty 10 41 w).mono fun e w' h => ?_
    obtain ⟨rfl, rfl⟩ := h
    exact ⟨rfl, Below.refl _ _⟩
  · have hne : t.data.toList ≠ [] := by
      intro h0
      have : t.data.toList.length = 0 := by rw [h0]; rfl
      rw [Array.length_toList] at this
      exact h this
    have e1 : Lib.parseUintB 41 t.data.toList = Lib.parseUintM 2199023255551 0 t.data.toList := by
      unfold Lib.parseUintB
      rw [if_neg hne]
    rw [e1]
    refine (pu_walk t h hmax w).mono fun e w' h => ?_
    obtain ⟨rfl, rfl⟩ := h
    exact ⟨rfl, Lib.bytesWorld_below _ _ _⟩
theorem ends_nat (x : Lib.NumEnd Nat) : (∃ v, x = .ok v) ∨ x = .range ∨ x = Lib.parseUintB 41 [] := by
  cases x
  · exact .inl ⟨_, rfl⟩
  · exact .inr (.inr rfl)
  · exact .inr (.inl rfl)
theorem pu_ok (s : ByteArray) (hlim : s.size ≤ 281474976710656) (v : Nat) (h : Lib.parseUintB 41 s.data.toList = .ok v) (w : World) :
    Calls Tryd.prog 23 #[.string s, .int .i64 10, .int .i64 41] w fun e w' => e = .returned (.tuple #[.int .u64 v, .nilIface]) ∧ Below w.heap.size w w' := by
  have key := pu_inner s (by omega) w
  rw [h] at key
  have e0 : Lib.uintTupleM 73 2199023255551 (.ok v) = .tuple #[.int .u64 v, .nilIface] := rfl
  rw [e0] at key
  clear h e0
  go_enter Tryd.func23, Tryd.ntmps23
  go_wp2_with (go_at_call 30; refine key.mono ?_; rintro e w' ⟨rfl, hb⟩)
  go_ret2
  exact ⟨rfl, hb⟩
theorem pu_range (s : ByteArray) (hlim : s.size ≤ 281474976710656) (h : Lib.parseUintB 41 s.data.toList = .range) (w : World) (tp : TypeId) (p : Value) (hv : w.cell? ⟨3, 0, none⟩ = some (.iface tp p)) (hlt : 3 < w.heap.size) :
    Calls Tryd.prog 23 #[.string s, .int .i64 10, .int .i64 41] w fun e w' => (∃ t v, e = .returned (.tuple #[.int .u64 2199023255551, .iface t v])) ∧ Below w.heap.size w w' := by
  have key := pu_inner s (by omega) w
  rw [h] at key
  have e0 : Lib.uintTupleM 73 2199023255551 .range = .tuple #[.int .u64 2199023255551, .iface 73 (.int .i64 1)] := rfl
  rw [e0] at key
  clear h e0
  go_enter Tryd.func23, Tryd.ntmps23
  go_wp2_with (go_at_call 30; refine key.mono ?_; rintro e w1 ⟨rfl, hb⟩)
  go_wp2_with (go_at_call 29; refine (Any.strconv_toError_range { atoiL with } _ s _ _ (.iface tp p) _ hlim ?_ (.inr ⟨_, _, rfl⟩)).mono ?_)
  · exact (hb.cell (p := ⟨3, 0, none⟩) hlt).trans hv
  rintro e w2 ⟨N, rfl, -, -, hb2⟩
  go_wp2
  go_ret2
  exact ⟨⟨_, _, rfl⟩, hb.trans (hb2.mono hb.size)⟩
theorem pu_syn (s : ByteArray) (hlim : s.size ≤ 281474976710656) (h : Lib.parseUintB 41 s.data.toList = Lib.parseUintB 41 []) (w : World) (tp : TypeId) (p : Value) (hv : w.cell? ⟨2, 0, none⟩ = some (.iface tp p)) (hlt : 2 < w.heap.size) :
    Calls Tryd.prog 23 #[.string s, .int .i64 10, .int .i64 41] w fun e w' => (∃ t v, e = .returned (.tuple #[.int .u64 0, .iface t v])) ∧ Below w.heap.size w w' := by
  have key := pu_inner s (by omega) w
  rw [h] at key
  have e0 : Lib.uintTupleM 73 2199023255551 (Lib.parseUintB 41 []) = .tuple #[.int .u64 0, .iface 73 (.int .i64 2)] := rfl
  rw [e0] at key
  clear h e0
  go_enter Tryd.func23, Tryd.ntmps23
  go_wp2_with (go_at_call 30; refine key.mono ?_; rintro e w1 ⟨rfl, hb⟩)
  go_wp2_with (go_at_call 29; refine (Any.strconv_toError_syntax { atoiL with } _ s _ _ (.iface tp p) _ hlim ?_ (.inr ⟨_, _, rfl⟩)).mono ?_)
  · exact (hb.cell (p := ⟨2, 0, none⟩) hlt).trans hv
  rintro e w2 ⟨N, rfl, -, -, hb2⟩
  go_wp2
  go_ret2
  exact ⟨⟨_, _, rfl⟩, hb.trans (hb2.mono hb.size)⟩
theorem rd_u64 {S : Nat → Prop} {w : World} {n : Int} (h0 : 0 ≤ n) (h1 : n ≤ 18446744073709551615) : RdV S w U64 (.int .u64 n) n := by
  show Rd S w U64 [.int .u64 n] n
  exact ⟨rfl, h0, h1⟩
theorem c_pu : CtrOk Tryd.prog 23 cPu := by
  refine ⟨⟨Tryd.f23, Tryd.func23, by kernel_rfl, by kernel_rfl⟩, fun S w args x hS hgl hargs hpre => ?_⟩
  obtain ⟨s, b, c, u⟩ := x
  change Int at b
  change Int at c
  obtain ⟨l⟩ := args
  match l, hargs with
  | [], h => exact h.elim
  | [_], h => exact h.2.elim
  | [_, _], h => exact h.2.2.elim
  | [v, v', v''], h =>
    obtain ⟨h1, h2⟩ : [v] = [Value.string (mkStr s)] ∧ isBytes s := h.1
    obtain ⟨h3, -⟩ : [v'] = [Value.int .i64 b] ∧ IR .i64 b := h.2.1
    obtain ⟨h5, -⟩ : [v''] = [Value.int .i64 c] ∧ IR .i64 c := h.2.2.1
    injection h1 with h1
    injection h3 with h3
    injection h5 with h5
    have h4 : b = (10 : Int) := hpre.2.1
    have h6 : c = (41 : Int) := hpre.2.2
    subst h1 h3 h5 h4 h6
    have hlen : s.length ≤ 1048576 := hpre.1
    have hsz : (mkStr s).size ≤ 281474976710656 := by rw [mkStr_size]; omega
    rcases ends_nat (puEnd s) with ⟨v, h⟩ | h | h
    · have eV : pu41V s = v := by unfold pu41V; rw [h]
      have eE : pu41E s = false := by unfold pu41E; rw [h]
      unfold puEnd at h
      have hle := Lib.parseUintB_le h
      rw [← by8_mkStr] at h
      refine (pu_ok (mkStr s) hsz v h w).mono fun e w' h => ?_
      obtain ⟨rfl, hb⟩ := h
      refine ⟨_, rfl, ⟨_, rfl, ?_, ?_, trivial⟩, hb⟩
      · show RdV S w U64 (.int .u64 v) (pu41V s)
        rw [eV]
        exact rd_u64 (by omega) (by omega)
      · show RdV S w .err .nilIface (pu41E s)
        rw [eE]
        exact rd_err0
    · have eV : pu41V s = 2199023255551 := by unfold pu41V; rw [h]
      have eE : pu41E s = true := by unfold pu41E; rw [h]
      unfold puEnd at h
      rw [← by8_mkStr] at h
      obtain ⟨tp, p, hv⟩ := glRan hgl
      refine (pu_range (mkStr s) hsz h w tp p hv (hgl (3, .err) (by simp [seatGl])).1).mono fun e w' h => ?_
      obtain ⟨⟨t, v, rfl⟩, hb⟩ := h
      refine ⟨_, rfl, ⟨_, rfl, ?_, ?_, trivial⟩, hb⟩
      · show RdV S w U64 (.int .u64 2199023255551) (pu41V s)
        rw [eV]
        exact rd_u64 (by omega) (by omega)
      · show RdV S w .err (.iface t v) (pu41E s)
        rw [eE]
        exact rd_err1
    · have eV : pu41V s = 0 := by unfold pu41V; rw [h]; rfl
      have eE : pu41E s = true := by unfold pu41E; rw [h]; rfl
      unfold puEnd at h
      rw [← by8_mkStr] at h
      obtain ⟨tp, p, hv⟩ := glSyn hgl
      refine (pu_syn (mkStr s) hsz h w tp p hv (hgl (2, .err) (by simp [seatGl])).1).mono fun e w' h => ?_
      obtain ⟨⟨t, v, rfl⟩, hb⟩ := h
      refine ⟨_, rfl, ⟨_, rfl, ?_, ?_, trivial⟩, hb⟩
      · show RdV S w U64 (.int .u64 0) (pu41V s)
        rw [eV]
        exact rd_u64 (by omega) (by omega)
      · show RdV S w .err (.iface t v) (pu41E s)
        rw [eE]
        exact rd_err1
  | _ :: _ :: _ :: _ :: _, h => exact h.2.2.2.elim

end Go.Proofs.YtjafnenkgmbgaaaDoor.Bench
