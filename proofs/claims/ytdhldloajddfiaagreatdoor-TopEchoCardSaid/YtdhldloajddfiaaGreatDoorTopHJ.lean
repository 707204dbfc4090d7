/-
  Contracts proved by hand.
-/
import Derived.Test.YtdhldloajddfiaaGreatDoorTopC
import Derived.Test.YtdhldloajddfiaaGreatDoorApicL
import Derived.WalkKit
import Derived.BigCall
import Derived.Lib.AppendIntMem
import Derived.Lib.BufferOld
import Derived.Test.YtdhldloajddfiaaGreatDoorTellL
import Derived.Shelf.Strings.BuilderF
import Derived.Shelf.Strings.Builder2
import Derived.Lib.RepeatB
import Derived.Deep.LoopGhost
namespace Go.Proofs.YtdhldloajddfiaaGreatDoor.Top
open Go.Sx
set_option maxRecDepth 100000
set_option maxHeartbeats 4000000
set_option linter.unusedSimpArgs false
set_option linter.unusedVariables false

open Go Go.Proofs Go.RowKit Go.Shelf
theorem pow_calls (w : World) : Calls Tryz.prog 58 #[.int .i64 16] w fun e w' => e = .returned (.bool true) ∧ w' = w := by
  go_enter Tryz.func58, Tryz.ntmps58
  go_wp2
  go_ret
  exact ⟨rfl, rfl⟩
theorem tz16 (w : World) (hT : TabAt 3 Lib.deBruijn64tab w) : Calls Tryz.prog 59 #[.int .u64 16] w fun e w' => e = .returned (.int .i64 4) ∧ w' = w := by
  go_enter Tryz.func59, Tryz.ntmps59
  go_wp2_with (go_at_call 70; refine (Apic.tz_calls 16 (by decide) w hT).mono ?_; rintro e w' ⟨rfl, rfl⟩)
  go_ret
  exact ⟨rfl, rfl⟩
theorem dig36 : ∀ n : Fin 16, (((({ data := #[48, 49, 50, 51, 52, 53, 54, 55, 56, 57, 97, 98, 99, 100, 101, 102, 103, 104, 105, 106, 107, 108, 109, 110, 111, 112, 113, 114, 115, 116, 117, 118, 119, 120, 121, 122] } : ByteArray)[n.val]'(Nat.lt_of_lt_of_le n.isLt (by decide))).toNat : Nat) : Int) = Tell.hexd ((n.val : Nat) : Int) := by decide +kernel
theorem bits16 (n : Nat) (hn : n < 16) (w : World) (hlt : 3 < w.heap.size) (hT : TabAt 3 Lib.deBruijn64tab w) :
    Calls Tryz.prog 45 #[.slice none 0 0, .int .u64 n, .int .i64 16, .bool false, .bool false] w fun e w' => e = .returned (.tuple #[.slice none 0 0, .string (mkStr [Tell.hexd n])]) ∧ Below w.heap.size w w' := by
  go_enter Tryz.func45, Tryz.ntmps45
  go_wp2_with (first | (go_at_call 58; refine (pow_calls _).mono ?_; rintro e w' ⟨rfl, rfl⟩) | (go_at_call 59; refine (tz16 _ ?_).mono ?_))
  · exact fun j hj => ((Below.alloc (Below.refl w.heap.size w) (Nat.le_refl _) _).cell (p := ⟨3, j, none⟩) hlt).trans (hT j hj)
  rintro e w' ⟨rfl, rfl⟩
  go_wp2
  have hi : (n : Int) < 16 := by omega
  have hi0 : (0 : Int) ≤ (n : Int) := by omega
  go_loopw [1, 13] (fun v1 v13 wr => v1 = .int .u64 n ∧ v13 = .int .i64 65 ∧ wr = w.alloc (.cells Tryz.zeroCells132 132)) (fun _ _ _ => 0)
  case atStart => exact ⟨rfl, rfl, rfl⟩
  case round =>
    obtain ⟨rfl, rfl, rfl⟩ := hrel
    go_wp2
    have hdg := dig36 ⟨n, hn⟩
    have hsz : Tryz.zeroCells132.size = 65 := by kernel_rfl
    generalize ({ data := #[48, 49, 50, 51, 52, 53, 54, 55, 56, 57, 97, 98, 99, 100, 101, 102, 103, 104, 105, 106, 107, 108, 109, 110, 111, 112, 113, 114, 115, 116, 117, 118, 119, 120, 121, 122] } : ByteArray)[n]'(by exact Nat.lt_of_lt_of_le hn (by decide)) = d at hdg ⊢
    have hcv : (convert 22 9 (.slice (some ⟨w.heap.size, 64, none⟩) 1 1)).run Tryz.prog (w.alloc (.cells (Tryz.zeroCells132.setIfInBounds 64 (.int .u8 d.toNat)) 132)) = .ok (.string ⟨[d].toArray⟩) (w.alloc (.cells (Tryz.zeroCells132.setIfInBounds 64 (.int .u8 d.toNat)) 132)) :=
      run_convert_bytes_back (P := Tryz.prog) _ 22 9 5 ⟨w.heap.size, 64, none⟩ 1 [d] Tryz.underlying22 Tryz.underlying5 Tryz.underlying9 (fun j hj => by
        match j, hj with
        | 0, _ =>
          show World.cell? _ ⟨w.heap.size, 64, none⟩ = _
          rw [World.cell?_alloc_new, Array.getElem?_setIfInBounds_self_of_lt (by rw [hsz]; decide)]
          rfl)
    have hb : Below w.heap.size w (w.alloc (.cells (Tryz.zeroCells132.setIfInBounds 64 (.int .u8 d.toNat)) 132)) := (Below.refl w.heap.size w).alloc (Nat.le_refl _) _
    have hstr : (⟨[d].toArray⟩ : ByteArray) = mkStr [Tell.hexd n] := by
      have hdg : (d.toNat : Int) = Tell.hexd (n : Int) := hdg
      have : UInt8.ofNat (Tell.hexd (n : Int)).toNat = d := by
        rw [← hdg, Int.toNat_natCast]
        simp
      show (⟨[d].toArray⟩ : ByteArray) = ⟨[UInt8.ofNat (Tell.hexd (n : Int)).toNat].toArray⟩
      rw [this]
    rw [hstr] at hcv
    generalize w.alloc (.cells (Tryz.zeroCells132.setIfInBounds 64 (.int .u8 d.toNat)) 132) = W2 at hcv hb ⊢
    go_wp2
    go_ret2
    exact ⟨rfl, hb⟩
theorem and_fin16 : ∀ x : Fin 256, bits BinOp.and IntKind.u64 ((x.val : Nat) : Int) 15 = ((x.val % 16 : Nat) : Int) := by decide +kernel
theorem bits256 (n : Nat) (hn : n < 256) (h16 : 16 ≤ n) (w : World) (hlt : 3 < w.heap.size) (hT : TabAt 3 Lib.deBruijn64tab w) :
    Calls Tryz.prog 45 #[.slice none 0 0, .int .u64 n, .int .i64 16, .bool false, .bool false] w fun e w' => e = .returned (.tuple #[.slice none 0 0, .string (mkStr [Tell.hexd (n / 16), Tell.hexd (n % 16)])]) ∧ Below w.heap.size w w' := by
  go_enter Tryz.func45, Tryz.ntmps45
  go_wp2_with (first | (go_at_call 58; refine (pow_calls _).mono ?_; rintro e w' ⟨rfl, rfl⟩) | (go_at_call 59; refine (tz16 _ ?_).mono ?_))
  · exact fun j hj => ((Below.alloc (Below.refl w.heap.size w) (Nat.le_refl _) _).cell (p := ⟨3, j, none⟩) hlt).trans (hT j hj)
  rintro e w' ⟨rfl, rfl⟩
  go_wp2
  have hand : bits BinOp.and IntKind.u64 (n : Int) 15 = (n : Int) % 16 := by
    have := and_fin16 ⟨n, hn⟩
    simpa using this
  have hi : (n : Int) < 256 := by omega
  have hi0 : (16 : Int) ≤ (n : Int) := by omega
  have hsz : Tryz.zeroCells132.size = 65 := by kernel_rfl
  go_loopw [1, 13] (fun v1 v13 wr => (v1 = .int .u64 n ∧ v13 = .int .i64 65 ∧ wr = w.alloc (.cells Tryz.zeroCells132 132)) ∨
      (v1 = .int .u64 ((n : Int) / 16) ∧ v13 = .int .i64 64 ∧ ∃ d : UInt8, (d.toNat : Int) = Tell.hexd ((n : Int) % 16) ∧ wr = w.alloc (.cells (Tryz.zeroCells132.setIfInBounds 64 (.int .u8 d.toNat)) 132))) (fun _ v13 _ => (intOf v13).toNat)
  case atStart => exact .inl ⟨rfl, rfl, rfl⟩
  case round =>
    rcases hrel with ⟨rfl, rfl, rfl⟩ | ⟨rfl, rfl, d, hd, rfl⟩
    · go_wp2_with (simp only [hand])
      refine ⟨.inr ⟨rfl, rfl, _, ?_, rfl⟩, by decide⟩
      have := dig36 ⟨n % 16, by omega⟩
      simpa using this
    · have hq : (n : Int) / 16 < 16 := by omega
      have hq0 : (0 : Int) ≤ (n : Int) / 16 := by omega
      have hd2 := Lib.hid hd
      clear hd
      go_wp2
      have hd := hd2.out
      have he := dig36 ⟨n / 16, by omega⟩
      generalize ({ data := #[48, 49, 50, 51, 52, 53, 54, 55, 56, 57, 97, 98, 99, 100, 101, 102, 103, 104, 105, 106, 107, 108, 109, 110, 111, 112, 113, 114, 115, 116, 117, 118, 119, 120, 121, 122] } : ByteArray)[n / 16]'(by exact Nat.lt_of_lt_of_le (show n / 16 < 16 by omega) (by decide)) = e at he ⊢
      have he : (e.toNat : Int) = Tell.hexd ((n : Int) / 16) := by simpa using he
      have hcv : (convert 22 9 (.slice (some ⟨w.heap.size, 63, none⟩) 2 2)).run Tryz.prog (w.alloc (.cells ((Tryz.zeroCells132.setIfInBounds 64 (.int .u8 d.toNat)).setIfInBounds 63 (.int .u8 e.toNat)) 132)) = .ok (.string ⟨[e, d].toArray⟩) (w.alloc (.cells ((Tryz.zeroCells132.setIfInBounds 64 (.int .u8 d.toNat)).setIfInBounds 63 (.int .u8 e.toNat)) 132)) :=
        run_convert_bytes_back (P := Tryz.prog) _ 22 9 5 ⟨w.heap.size, 63, none⟩ 2 [e, d] Tryz.underlying22 Tryz.underlying5 Tryz.underlying9 (fun j hj => by
          match j, hj with
          | 0, _ =>
            show World.cell? _ ⟨w.heap.size, 63, none⟩ = _
            rw [World.cell?_alloc_new, Array.getElem?_setIfInBounds_self_of_lt (by rw [Array.size_setIfInBounds, hsz]; decide)]
            rfl
          | 1, _ =>
            show World.cell? _ ⟨w.heap.size, 64, none⟩ = _
            rw [World.cell?_alloc_new, Array.getElem?_setIfInBounds_ne (by decide), Array.getElem?_setIfInBounds_self_of_lt (by rw [hsz]; decide)]
            rfl)
      have hb : Below w.heap.size w (w.alloc (.cells ((Tryz.zeroCells132.setIfInBounds 64 (.int .u8 d.toNat)).setIfInBounds 63 (.int .u8 e.toNat)) 132)) := (Below.refl w.heap.size w).alloc (Nat.le_refl _) _
      have hstr : (⟨[e, d].toArray⟩ : ByteArray) = mkStr [Tell.hexd ((n : Int) / 16), Tell.hexd ((n : Int) % 16)] := by
        show (⟨[e, d].toArray⟩ : ByteArray) = ⟨[UInt8.ofNat (Tell.hexd ((n : Int) / 16)).toNat, UInt8.ofNat (Tell.hexd ((n : Int) % 16)).toNat].toArray⟩
        rw [← he, ← hd, Int.toNat_natCast, Int.toNat_natCast]
        simp
      rw [hstr] at hcv
      generalize w.alloc (.cells ((Tryz.zeroCells132.setIfInBounds 64 (.int .u8 d.toNat)).setIfInBounds 63 (.int .u8 e.toNat)) 132) = W2 at hcv hb ⊢
      go_wp2
      go_ret2
      exact ⟨rfl, hb⟩
theorem hexN_lt {n : Int} (h : n < 16) : hexN n = [Tell.hexd n] := by
  unfold hexN
  rw [if_pos h]
theorem hexN_ge {n : Int} (h : 16 ≤ n) : hexN n = [Tell.hexd (n / 16), Tell.hexd (n % 16)] := by
  unfold hexN
  rw [if_neg (by omega)]
theorem bitsN (n : Nat) (hn : n < 256) (w : World) (hlt : 3 < w.heap.size) (hT : TabAt 3 Lib.deBruijn64tab w) :
    Calls Tryz.prog 45 #[.slice none 0 0, .int .u64 n, .int .i64 16, .bool false, .bool false] w fun e w' => e = .returned (.tuple #[.slice none 0 0, .string (mkStr (hexN n))]) ∧ Below w.heap.size w w' := by
  by_cases h : n < 16
  · rw [hexN_lt (by omega)]
    exact bits16 n h w hlt hT
  · rw [hexN_ge (by omega)]
    exact bits256 n hn (by omega) w hlt hT
theorem hexd_rng {n : Int} (h0 : 0 ≤ n) (h1 : n < 16) : 0 ≤ Tell.hexd n ∧ Tell.hexd n ≤ 255 := by
  unfold Tell.hexd
  split <;> omega
theorem hexN_bytes {n : Int} (h0 : 0 ≤ n) (h1 : n ≤ 255) : isBytes (hexN n) := by
  unfold hexN
  split
  · refine ⟨by simp, fun b hb => ?_⟩
    rw [List.mem_singleton] at hb
    subst hb
    exact hexd_rng h0 (by omega)
  · refine ⟨by simp, fun b hb => ?_⟩
    simp only [List.mem_cons, List.not_mem_nil, or_false] at hb
    rcases hb with e | e <;> subst e
    · exact hexd_rng (by omega) (by omega)
    · exact hexd_rng (by omega) (by omega)
theorem fmtN (n : Nat) (hn : n < 256) (w : World) (hlt : 3 < w.heap.size) (hT : TabAt 3 Lib.deBruijn64tab w) :
    Calls Tryz.prog 13 #[.int .i64 n, .int .i64 16] w fun e w' => e = .returned (.string (mkStr (hexN n))) ∧ Below w.heap.size w w' := by
  have hi : (n : Int) < 256 := by omega
  have hi0 : (0 : Int) ≤ (n : Int) := by omega
  have hw : IntKind.u64.wrap (n : Int) = n := wrap_in (k := .u64) ⟨by omega, by omega⟩
  have hl : decide ((n : Int) < 0) = false := decide_eq_false (by omega)
  have key : Calls Tryz.prog 29 #[.int .i64 n, .int .i64 16] w fun e w' => e = .returned (.string (mkStr (hexN n))) ∧ Below w.heap.size w w' := by
    go_enter Tryz.func29, Tryz.ntmps29
    go_wp2_with (first | (simp only [hw, hl]) | (go_at_call 45; refine (bitsN n hn _ hlt hT).mono ?_; rintro e w' ⟨rfl, hb⟩))
    go_ret
    exact ⟨rfl, hb⟩
  go_enter Tryz.func13, Tryz.ntmps13
  go_wp2_with (go_at_call 29; refine key.mono ?_; rintro e w' ⟨rfl, hb⟩)
  go_ret
  exact ⟨rfl, hb⟩
theorem c_fmt16 : CtrOk Tryz.prog 13 cFmt16 := by
  refine ⟨⟨Tryz.f13, Tryz.func13, by kernel_rfl, by kernel_rfl⟩, fun S w args x hS hgl hargs hpre => ?_⟩
  obtain ⟨n, b, u⟩ := x
  change Int at n b
  obtain ⟨h0, h1, rfl⟩ : 0 ≤ n ∧ n ≤ 255 ∧ b = 16 := hpre
  obtain ⟨l⟩ := args
  match l, hargs with
  | [], h => exact h.elim
  | [_], h => exact h.2.elim
  | [v, v'], h =>
    obtain ⟨e1, -⟩ : [v] = [Value.int .i64 n] ∧ IR .i64 n := h.1
    obtain ⟨e2, -⟩ : [v'] = [Value.int .i64 16] ∧ IR .i64 16 := h.2.1
    injection e1 with e1
    injection e2 with e2
    subst e1 e2
    obtain ⟨m, rfl⟩ : ∃ m : Nat, n = m := ⟨n.toNat, by omega⟩
    have hg := hgl (3, .u8 Lib.deBruijn64tab) (by simp [seatGl])
    refine (fmtN m (by omega) w hg.1 hg.2).mono fun e w' h => ?_
    obtain ⟨rfl, hb⟩ := h
    refine ⟨_, rfl, ?_, hb⟩
    show RdV S w' .str (.string (mkStr (hexN m))) (hexN m)
    refine ⟨rfl, hexN_bytes (by omega) h1⟩
  | _ :: _ :: _ :: _, h => exact h.2.2.elim
end Go.Proofs.YtdhldloajddfiaaGreatDoor.Top
namespace Go.Proofs.YtdhldloajddfiaaGreatDoor.Top
open Go.Sx
set_option maxRecDepth 100000
set_option maxHeartbeats 4000000
set_option linter.unusedSimpArgs false
set_option linter.unusedVariables false

open Go Go.Proofs Go.RowKit Go.Shelf
open Bench (bX bstrL bstrL_ren check_fresh check_used)
theorem check_f (B b : Nat) (bs : List Value) (w : World) (h : Lib.IsBuilderF 62 5 B b bs w) :
    Calls Tryz.prog 40 #[.pointer (some ⟨b, 0, none⟩)] w fun e w' => e = .returned (.tuple #[]) ∧ (Lib.BuilderAtF 62 5 B b (.pointer (some ⟨b, 0, none⟩)) bs w' ∧ Below B w w') := by
  rcases h with h | h
  · refine (check_fresh b w h.cell0 h.shape h.frozen0).mono ?_
    rintro e w' ⟨rfl, rfl⟩
    exact ⟨rfl, h.used _, (Below.refl B w).setCell (p := ⟨b, 0, none⟩) h.1 _⟩
  · refine (check_used b w h.cell0).mono ?_
    rintro e w' ⟨rfl, rfl⟩
    exact ⟨rfl, h, Below.refl B _⟩
theorem len_f (B b : Nat) (bs : List Value) (w : World) (h : Lib.IsBuilderF 62 5 B b bs w) :
    Calls Tryz.prog 27 #[.pointer (some ⟨b, 0, none⟩)] w fun e w' => e = .returned (.int .i64 bs.length) ∧ w' = w := by
  obtain ⟨p, hB, v, hbk, hown, hne⟩ : ∃ p, Lib.BuilderAtF 62 5 B b p bs w := by
    rcases h with h | h
    · exact ⟨_, h⟩
    · exact ⟨_, h⟩
  obtain ⟨ao, cap, rfl⟩ : ∃ ao cap, v = .slice ao bs.length cap := by
    rcases hown.2 with ⟨hv, h0⟩ | ⟨g, cap, cur, fz, hv, _⟩
    · exact ⟨none, 0, by rw [hv, h0]⟩
    · exact ⟨_, _, hv⟩
  have c1 : w.cell? ⟨b, 1, none⟩ = some (.slice ao bs.length cap) := by rw [Lib.cell_of_heap hbk]; rfl
  go_enter Tryz.func27, Tryz.ntmps27
  go_wp2
  go_ret
  exact ⟨rfl, rfl⟩
theorem write_f (B b : Nat) (bs : List Value) (s : ByteArray) (w : World) (h : Lib.IsBuilderF 62 5 B b bs w) (hlen : bs.length + s.size ≤ 140737488355328) (hBw : B ≤ w.heap.size) :
    Calls Tryz.prog 26 #[.pointer (some ⟨b, 0, none⟩), .string s] w fun e w' => e = .returned (.tuple #[.int .i64 s.size, .nilIface]) ∧ (Lib.BuilderAtF 62 5 B b (.pointer (some ⟨b, 0, none⟩)) (bs ++ Lib.strCells s) w' ∧ Below B w w') := by
  obtain ⟨i0, hi, hz0, hz1, hz2⟩ := info_parts bX.infoByte
  go_enter Tryz.func26, Tryz.ntmps26
  go_wp2_with (go_at_call 40; refine (check_f B b bs _ h).mono ?_)
  rintro e w1 ⟨rfl, h1, hb1⟩
  obtain ⟨hB, v, hbk, hown, hne⟩ := h1
  have c0 : w1.cell? ⟨b, 0, none⟩ = some (.pointer (some ⟨b, 0, none⟩)) := by rw [Lib.cell_of_heap hbk]; rfl
  have c1 : w1.cell? ⟨b, 1, none⟩ = some v := by rw [Lib.cell_of_heap hbk]; rfl
  go_wp2_with (at_builtin; refine Lib.wpList_append_own_stringF _ rfl _ _ 22 9 rfl B 5 i0 Tryz.underlying22 Tryz.underlying9 hi hz0 hz1 hz2 _ _ _ rfl hown s rfl ?c3 ?c4 ?c5 ?_)
  case c3 => unfold maxLen; omega
  case c4 => omega
  case c5 => have := hb1.size; omega
  intro v' w2 hown' hgrow _
  have hlt : b < w1.heap.size := by
    rcases Nat.lt_or_ge b w1.heap.size with h' | h'
    · exact h'
    · simp [Array.getElem?_eq_none h'] at hbk
  have hb2 : w2.heap[b]? = some (.cells #[.pointer (some ⟨b, 0, none⟩), v] 62 (0, 0)) := by
    rw [hgrow.block b hlt (fun e => hne e.symm)]
    exact hbk
  have d0 : w2.cell? ⟨b, 0, none⟩ = some (.pointer (some ⟨b, 0, none⟩)) := by rw [Lib.cell_of_heap hb2]; rfl
  have d1 : w2.cell? ⟨b, 1, none⟩ = some v := by rw [Lib.cell_of_heap hb2]; rfl
  have f1 : w2.frozen? ⟨b, 1, none⟩ = false := Lib.frozen_of_heap hb2 1
  obtain ⟨ao, n', cap, rfl⟩ : ∃ ao n' cap, v' = .slice ao n' cap := by
    rcases hown'.2 with ⟨hv, _⟩ | ⟨g, cap, cur, fz, hv, _⟩
    · exact ⟨_, _, _, hv⟩
    · exact ⟨_, _, _, hv⟩
  go_wp2
  go_ret2
  refine ⟨rfl, ?_, ?_⟩
  · exact Lib.BuilderAtF.put (T := 62) (e := 5) hB hb2 (bs' := bs ++ Lib.strCells s) (by simpa [Lib.strCells_length] using hown') bX.neB5
  · exact (hb1.grown hgrow (by have := hb1.size; omega) (fun k hk => (hown.lt k hk).1)).setCell (p := ⟨b, 1, none⟩) hB _
theorem grow_fresh (B b n : Nat) (w : World) (hB : B ≤ b) (hbk : w.heap[b]? = some (.cells #[.pointer (some ⟨b, 0, none⟩), .slice none 0 0] 62 (0, 0))) (hBw : B ≤ w.heap.size) (hn : n ≤ 281474976710656) :
    Calls Tryz.prog 41 #[.pointer (some ⟨b, 0, none⟩), .int .i64 n] w fun e w' => e = .returned (.tuple #[]) ∧ (Lib.BuilderAt 62 5 B b (.pointer (some ⟨b, 0, none⟩)) [] w' ∧ Below B w w') := by
  obtain ⟨cs, hrun, hle, hmax⟩ := Lib.run_makeNoZero (P := Tryz.prog) w.drew #[3] 22 5 Tryz.underlying22 n hn
  have hw : IntKind.i64.wrap (IntKind.i64.wrap 0 + (n : Int)) = n := by
    rw [IntKind.wrap_i64, IntKind.wrap_i64]
    omega
  have hcall : (callFunc 54 #[.int .i64 (IntKind.i64.wrap (IntKind.i64.wrap 0 + (n : Int)))]).run Tryz.prog w.drew = .ok (.value (.slice (some ⟨w.drew.heap.size, 0, none⟩) n cs.size)) (w.drew.drew.drew.alloc (.cells cs 5)) := by
    rw [hw, run_callFunc_extern Tryz.func54 (by kernel_rfl) (by kernel_rfl) (by kernel_rfl) (e := Extern.BytealgMakeNoZero.makeNoZero #[3] #[22]) (by kernel_rfl), hrun]
    rfl
  have c1 : w.drew.cell? ⟨b, 1, none⟩ = some (.slice none 0 0) := by
    have : w.drew.heap[b]? = _ := hbk
    rw [Lib.cell_of_heap this]; rfl
  have hlt : b < w.heap.size := by
    rcases Nat.lt_or_ge b w.heap.size with h' | h'
    · exact h'
    · simp [Array.getElem?_eq_none h'] at hbk
  have c2 : (w.alloc (.cells cs 5)).cell? ⟨b, 1, none⟩ = some (.slice none 0 0) := by
    have : (w.alloc (.cells cs 5)).heap[b]? = _ := (Lib.alloc_old w _ b hlt).trans hbk
    rw [Lib.cell_of_heap this]; rfl
  have f2 : (w.alloc (.cells cs 5)).frozen? ⟨b, 1, none⟩ = false := Lib.frozen_of_heap ((Lib.alloc_old w _ b hlt).trans hbk) 1
  have hcopy : ∀ W : World, (Builtin.copy_ #[22, 22] 3 #[.slice (some ⟨w.heap.size, 0, none⟩) 0 cs.size, .slice none 0 0]).run Tryz.prog W = .ok (goInt 0) W :=
    fun W => run_copy_none W 22 22 3 5 _ _ 0 cs.size 0 0 Tryz.underlying22 bX.sizeByte rfl
  clear hw
  go_enter Tryz.func41, Tryz.ntmps41
  go_wp2
  have hfin := Lib.grown_fresh (T := 62) (e := 5) (cs := cs) hB hbk hBw (hmax (by unfold maxLen; omega)) bX.neB5
  rw [World.setCell_alloc_past _ _ _ _ hlt] at hfin
  go_region
  all_goals (go_wp2; go_end0; exact ⟨rfl, hfin⟩)
theorem Grow_fresh (B b n : Nat) (w : World) (hB : B ≤ b) (hbk : w.heap[b]? = some (.cells #[.pointer none, .slice none 0 0] 62 (0, 0))) (hBw : B ≤ w.heap.size) (hn : n ≤ 281474976710656) :
    Calls Tryz.prog 25 #[.pointer (some ⟨b, 0, none⟩), .int .i64 n] w fun e w' => e = .returned (.tuple #[]) ∧ (Lib.BuilderAt 62 5 B b (.pointer (some ⟨b, 0, none⟩)) [] w' ∧ Below B w w') := by
  have hbk1 : (w.setCell ⟨b, 0, none⟩ (.pointer (some ⟨b, 0, none⟩))).heap[b]? = some (.cells #[.pointer (some ⟨b, 0, none⟩), .slice none 0 0] 62 (0, 0)) := by
    simp [World.setCell, Array.getElem?_modify, hbk]
  have c1 : (w.setCell ⟨b, 0, none⟩ (.pointer (some ⟨b, 0, none⟩))).cell? ⟨b, 1, none⟩ = some (.slice none 0 0) := by rw [Lib.cell_of_heap hbk1]; rfl
  have hb1 : Below B w (w.setCell ⟨b, 0, none⟩ (.pointer (some ⟨b, 0, none⟩))) := (Below.refl B w).setCell (p := ⟨b, 0, none⟩) hB _
  go_enter Tryz.func25, Tryz.ntmps25
  have hU : Lib.BuilderAt 62 5 B b (.pointer (some ⟨b, 0, none⟩)) [] (w.setCell ⟨b, 0, none⟩ (.pointer (some ⟨b, 0, none⟩))) := ⟨hB, .slice none 0 0, hbk1, World.ownsRow_nil _ _ _ _, by simp [Value.ownBlock]⟩
  have c1' : (w.setCell ⟨b, 0, none⟩ (.pointer (some ⟨b, 0, none⟩))).drew.cell? ⟨b, 1, none⟩ = some (.slice none 0 0) := c1
  go_wp2_with (go_at_call 40; refine (check_fresh b w (by rw [Lib.cell_of_heap hbk]; rfl) (by simp [World.shape?, hbk]) (Lib.frozen_of_heap hbk 0)).mono ?_; rintro e w' ⟨rfl, rfl⟩)
  go_region
  all_goals go_wp2_with (go_at_call 41; refine (grow_fresh B b n (w.setCell ⟨b, 0, none⟩ (.pointer (some ⟨b, 0, none⟩))).drew hB hbk1 (by simpa [World.setCell, World.drew, -World.drew_eq] using hBw) hn).mono ?_; rintro e w' ⟨rfl, h1, h2⟩)
  all_goals first
    | (go_end0; exact ⟨rfl, h1, hb1.drew.trans h2⟩)
    | (go_end0; exact ⟨rfl, hU.drew, hb1.drew⟩)
end Go.Proofs.YtdhldloajddfiaaGreatDoor.Top
namespace Go.Proofs.YtdhldloajddfiaaGreatDoor.Top
open Go.Sx
set_option maxRecDepth 100000
set_option maxHeartbeats 4000000
set_option linter.unusedSimpArgs false
set_option linter.unusedVariables false

open Go Go.Proofs Go.RowKit Go.Shelf
open Bench (bX bstrL bstrL_ren)
theorem min3 {P : Program} {w : World} (ts : Array TypeId) (t : TypeId) (x y z : Int) : (Builtin.min_ ts t #[.int .i64 x, .int .i64 y, .int .i64 z]).run P w = .ok (.int .i64 (if z < (if y < x then y else x) then z else (if y < x then y else x))) w := by
  simp [Builtin.min_, Builtin.min2]
theorem mul64 (w : World) : Calls Tryz.prog 38 #[.int .u64 6, .int .u64 4] w fun e w' => e = .returned (.tuple #[.int .u64 0, .int .u64 24]) ∧ w' = w := by
  go_enter Tryz.func38, Tryz.ntmps38
  go_wp2
  go_ret2
  exact ⟨rfl, rfl⟩
theorem mul_calls (w : World) : Calls Tryz.prog 23 #[.int .u64 6, .int .u64 4] w fun e w' => e = .returned (.tuple #[.int .u64 0, .int .u64 24]) ∧ w' = w := by
  go_enter Tryz.func23, Tryz.ntmps23
  go_wp2_with (go_at_call 38; refine (mul64 _).mono ?_; rintro e w' ⟨rfl, hw⟩; rw [hw])
  go_ret2
  exact ⟨rfl, rfl⟩
theorem rep0 (s : ByteArray) (w : World) : Calls Tryz.prog 12 #[.string s, .int .i64 0] w fun e w' => e = .returned (.string ⟨#[]⟩) ∧ w' = w := by
  go_enter Tryz.func12, Tryz.ntmps12
  go_wp2
  go_ret
  exact ⟨rfl, rfl⟩
theorem rep1 (s : ByteArray) (w : World) : Calls Tryz.prog 12 #[.string s, .int .i64 1] w fun e w' => e = .returned (.string s) ∧ w' = w := by
  go_enter Tryz.func12, Tryz.ntmps12
  go_wp2
  go_ret
  exact ⟨rfl, rfl⟩
theorem rep4 (c : UInt8) (w : World) : Calls Tryz.prog 12 #[.string ⟨#[114, 117, 110, 32, c, 10]⟩, .int .i64 4] w fun e w' => e = .returned (.string ⟨(Lib.repeatL [114, 117, 110, 32, c, 10] 4).toArray⟩) ∧ Below w.heap.size w w' := by
  go_enter Tryz.func12, Tryz.ntmps12
  have b0 : Below w.heap.size w (w.alloc (.cells #[.pointer none, .slice none 0 0] 62)) := (Below.refl _ w).alloc (Nat.le_refl _) _
  have cG := Grow_fresh w.heap.size w.heap.size 24 (w.alloc (.cells #[.pointer none, .slice none 0 0] 62)) (Nat.le_refl _) (heap_alloc_new w _) b0.size (by omega)
  go_wp2_with (first | (go_at_call 23; refine (mul_calls _).mono ?_; rintro e w' ⟨rfl, hw⟩; rw [hw]) | (go_at_call 25; refine cG.mono ?_; rintro e W1 ⟨rfl, h1, b1⟩))
  clear cG
  have cW := write_f w.heap.size w.heap.size [] ⟨#[114, 117, 110, 32, c, 10]⟩ W1 (Lib.IsBuilderF.of (Or.inr h1)) (by simp [ByteArray.size]) (Nat.le_trans b0.size b1.size)
  go_wp2_with (go_at_call 26; refine cW.mono ?_; rintro e W2 ⟨rfl, h2, b2⟩)
  clear cW h1
  have h2' : Lib.IsBuilderF 62 5 w.heap.size w.heap.size (Lib.byteCells (Lib.repeatL [114, 117, 110, 32, c, 10] 1)) W2 := by
    rw [List.nil_append, Lib.strCells_eq] at h2
    rw [Lib.repeatL_one]
    exact Or.inr h2
  have b02 : Below w.heap.size w W2 := b0.trans (b1.trans b2)
  clear h2 b0 b1 b2
  obtain ⟨s, hs⟩ : ∃ s : List UInt8, Aside ([114, 117, 110, 32, c, 10] = s) := ⟨_, rfl⟩
  have hs6 : s.length = 6 := by rw [← hs.out]; rfl
  rw [hs.out] at h2'
  go_loopg [] 2 (fun g wx => ∃ q : Nat, (q = 1 ∧ g = 2 ∨ q = 2 ∧ g = 1 ∨ q = 4 ∧ g = 0) ∧ Lib.IsBuilderF 62 5 w.heap.size w.heap.size (Lib.byteCells (Lib.repeatL s q)) wx ∧ Below w.heap.size w wx)
  case atStart => exact ⟨1, .inl ⟨rfl, rfl⟩, h2', b02⟩
  case round =>
    obtain ⟨q, hq, hB, hbx⟩ := hrel
    have hlq : (Lib.byteCells (Lib.repeatL s q)).length = q * 6 := by rw [Lib.byteCells_length, Lib.repeatL_length, hs6]
    have cLen := len_f w.heap.size w.heap.size _ wr hB
    rw [hlq] at cLen
    obtain ⟨S, hS⟩ : ∃ S : ByteArray, (⟨(Lib.repeatL s q).toArray⟩ : ByteArray) = S := ⟨_, rfl⟩
    have hSd : S.data.toList = Lib.repeatL s q := by rw [← hS]
    have hSz : S.size = q * 6 := by rw [Lib.size_eq, hSd, Lib.repeatL_length, hs6]
    have cStr := Any.Builder_String_any_f bstrL bX w.heap.size w.heap.size (Lib.repeatL s q) wr hB hbx.size
    rw [hS] at cStr
    have step : ∀ (k : Nat) (W4 : World), k ≤ q → Lib.BuilderAtF 62 5 w.heap.size w.heap.size (.pointer (some ⟨w.heap.size, 0, none⟩)) (Lib.byteCells (Lib.repeatL s q) ++ Lib.strCells (S.extract 0 (k * 6))) W4 → Lib.IsBuilderF 62 5 w.heap.size w.heap.size (Lib.byteCells (Lib.repeatL s (q + k))) W4 := fun k W4 hk h => by
      rw [Lib.strCells_eq, ← Lib.byteCells_append, Lib.extract_data, hSd] at h
      simp only [List.drop_zero, Nat.sub_zero] at h
      rw [← hs6, Lib.step_ok _ _ _ hk] at h
      exact Or.inr h
    rcases hq with ⟨rfl, rfl⟩ | ⟨rfl, rfl⟩ | ⟨rfl, rfl⟩
    · go_wp2_with (first
        | (rw [min3])
        | (go_at_call 27; refine cLen.mono ?_; rintro e w' ⟨rfl, hw⟩; rw [hw])
        | (go_at_call 28; refine cStr.mono ?_; rintro e W3 ⟨rfl, h3, b3⟩))
      have cWr := write_f w.heap.size w.heap.size _ (S.extract 0 6) W3 h3 (by
        rw [hlq, Lib.size_eq, Lib.extract_data, hSd]
        simp only [List.drop_zero, Nat.sub_zero, List.length_take, Lib.repeatL_length]
        omega) (Nat.le_trans hbx.size b3.size)
      go_wp2_with (go_at_call 26; refine cWr.mono ?_; rintro e W4 ⟨rfl, h4, b4⟩)
      go_roundg 1
      case measure => omega
      case rel => exact ⟨2, .inr (.inl ⟨rfl, rfl⟩), step 1 W4 (by omega) h4, hbx.trans (b3.trans b4)⟩
    · go_wp2_with (first
        | (rw [min3])
        | (go_at_call 27; refine cLen.mono ?_; rintro e w' ⟨rfl, hw⟩; rw [hw])
        | (go_at_call 28; refine cStr.mono ?_; rintro e W3 ⟨rfl, h3, b3⟩))
      have cWr := write_f w.heap.size w.heap.size _ (S.extract 0 12) W3 h3 (by
        rw [hlq, Lib.size_eq, Lib.extract_data, hSd]
        simp only [List.drop_zero, Nat.sub_zero, List.length_take, Lib.repeatL_length]
        omega) (Nat.le_trans hbx.size b3.size)
      go_wp2_with (go_at_call 26; refine cWr.mono ?_; rintro e W4 ⟨rfl, h4, b4⟩)
      go_roundg 0
      case measure => omega
      case rel => exact ⟨4, .inr (.inr ⟨rfl, rfl⟩), step 2 W4 (by omega) h4, hbx.trans (b3.trans b4)⟩
    · go_wp2_with (first
        | (rw [min3])
        | (go_at_call 27; refine cLen.mono ?_; rintro e w' ⟨rfl, hw⟩; rw [hw])
        | (go_at_call 28; refine cStr.mono ?_; rintro e W3 ⟨rfl, h3, b3⟩))
      go_ret
      have e4 : (⟨(Lib.repeatL [114, 117, 110, 32, c, 10] 4).toArray⟩ : ByteArray) = S := by rw [hs.out, hS]
      exact ⟨by rw [e4] <;> rfl, hbx.trans b3⟩
theorem c_rep : CtrOk Tryz.prog 12 cRep := by
  refine ⟨⟨Tryz.f12, Tryz.func12, by kernel_rfl, by kernel_rfl⟩, fun S w args x hS hgl hargs hpre => ?_⟩
  obtain ⟨s, n, ⟨⟩⟩ := x
  change List Int at s
  change Int at n
  have hpre : (n = 4 ∧ (s = [114, 117, 110, 32, 48, 10] ∨ s = [114, 117, 110, 32, 49, 10])) ∨ (s = [48] ∧ (n = 0 ∨ n = 1)) := hpre
  obtain ⟨l⟩ := args
  match l, hargs with
  | [], h => exact h.elim
  | [_], h => exact h.2.elim
  | [v, v'], h =>
    obtain ⟨e1, -⟩ : [v] = [Value.string (mkStr s)] ∧ isBytes s := h.1
    obtain ⟨e2, -⟩ : [v'] = [Value.int .i64 n] ∧ IR .i64 n := h.2.1
    injection e1 with e1
    injection e2 with e2
    subst e1 e2
    rcases hpre with ⟨rfl, rfl | rfl⟩ | ⟨rfl, rfl | rfl⟩
    · refine (rep4 48 w).mono fun e w' h => ?_
      obtain ⟨rfl, hb⟩ := h
      exact ⟨_, rfl, (show RdV S w' .str (.string _) _ from ⟨rfl, ⟨by decide, by decide⟩⟩), hb⟩
    · refine (rep4 49 w).mono fun e w' h => ?_
      obtain ⟨rfl, hb⟩ := h
      exact ⟨_, rfl, (show RdV S w' .str (.string _) _ from ⟨rfl, ⟨by decide, by decide⟩⟩), hb⟩
    · refine (rep0 _ w).mono fun e w' h => ?_
      obtain ⟨rfl, rfl⟩ := h
      exact ⟨_, rfl, (show RdV S w' .str (.string _) _ from ⟨rfl, ⟨by decide, by decide⟩⟩), Below.refl _ _⟩
    · refine (rep1 _ w).mono fun e w' h => ?_
      obtain ⟨rfl, rfl⟩ := h
      exact ⟨_, rfl, (show RdV S w' .str (.string _) _ from ⟨rfl, ⟨by decide, by decide⟩⟩), Below.refl _ _⟩
  | _ :: _ :: _ :: _, h => exact h.2.2.elim
end Go.Proofs.YtdhldloajddfiaaGreatDoor.Top
