/-
  Contracts proved by hand.
-/
import Derived.Test.YtlnlichdidobpaaGreatDoorTellC
import Derived.Test.YtlnlichdidobpaaGreatDoorTellH1
import Derived.WalkKit
import Derived.BigCall
import Derived.Lib.AppendIntMem
import Derived.Lib.BufferOld
namespace Go.Proofs.YtlnlichdidobpaaGreatDoor.Tell
open Go.Sx
set_option maxRecDepth 100000
set_option maxHeartbeats 4000000
set_option linter.unusedSimpArgs false
set_option linter.unusedVariables false

open Go Go.Proofs Go.RowKit
theorem N2 : aX Tryz.prog 17 JU := by
  refine ⟨⟨Tryz.f17, Tryz.func17, by kernel_rfl, by kernel_rfl⟩, fun S w args x hS hgl hargs hpre => ?_⟩
  obtain ⟨n, u⟩ := x
  change Int at n
  have hir : IR .i64 n := (show [args.toList.getD 0 undef] = _ ∧ IR .i64 n from by
    obtain ⟨l⟩ := args
    match l, hargs with
    | [], h => exact h.elim
    | [v], h => exact h.1
    | _ :: _ :: _, h => exact h.2.elim).2
  obtain rfl := Bench.Ro hargs
  have h0 : (0 : Int) ≤ n := hpre
  have h1 : n ≤ (9223372036854775807 : Int) := hir.2
  refine (Any.strconv_Itoa Bench.QU n (by omega) (by omega) w (Bench.Qq hgl)).mono fun e w' h => ?_
  obtain ⟨rfl, k, os, rfl⟩ := h
  have e1 : Lib.itoa n = Lib.decDigits n.toNat := by unfold Lib.itoa; rw [if_neg (by omega)]
  rw [e1]
  have h2 := Bench.uo (u := n.toNat) (by omega)
  refine ⟨_, rfl, ?_, Lib.below_grow _ w (Nat.le_refl _) k os⟩
  exact Bench.yX (S := S) (w := w) (by omega)
end Go.Proofs.YtlnlichdidobpaaGreatDoor.Tell
namespace Go.Proofs.YtlnlichdidobpaaGreatDoor.Tell
open Go.Sx
set_option maxRecDepth 100000
set_option maxHeartbeats 4000000
set_option linter.unusedSimpArgs false
set_option linter.unusedVariables false

open Go Go.Proofs Go.RowKit Go.Shelf
theorem qF {n : Int} (h0 : 0 ≤ n) (h1 : n < 16) : 0 ≤ yt n ∧ yt n ≤ 255 := by
  unfold yt
  split <;> omega
theorem N5 : ∀ x : Fin 256, bits BinOp.and IntKind.u8 ((x.val : Nat) : Int) 15 = ((x.val % 16 : Nat) : Int) := by decide +kernel
theorem UE {x : Int} (h0 : 0 ≤ x) (h1 : x ≤ 255) : bits BinOp.and IntKind.u8 x 15 = x % 16 := by
  obtain ⟨n, rfl⟩ : ∃ n : Nat, x = n := ⟨x.toNat, by omega⟩
  have := N5 ⟨n, by omega⟩
  simpa using this
theorem rW : ∀ l : List Int, (ry l).length = 2 * l.length
  | [] => rfl
  | b :: l => by
    have := rW l
    unfold ry at this ⊢
    rw [List.map_cons, List.flatten_cons, List.length_append, this, List.length_cons]
    simp only [List.length_cons, List.length_nil]
    omega
theorem LF : ∀ n : Fin 16, (((({ data := #[48, 49, 50, 51, 52, 53, 54, 55, 56, 57, 97, 98, 99, 100, 101, 102] } : ByteArray)[n.val]'(n.isLt)).toNat : Nat) : Int) = yt ((n.val : Nat) : Int) := by decide +kernel
theorem VJ (n : Int) (h0 : 0 ≤ n) (h1 : n < 16) (hp : n.toNat < ({ data := #[48, 49, 50, 51, 52, 53, 54, 55, 56, 57, 97, 98, 99, 100, 101, 102] } : ByteArray).size) :
    (((({ data := #[48, 49, 50, 51, 52, 53, 54, 55, 56, 57, 97, 98, 99, 100, 101, 102] } : ByteArray)[n.toNat]'hp).toNat : Nat) : Int) = yt n := by
  have := LF ⟨n.toNat, by omega⟩
  rw [Int.toNat_of_nonneg h0] at this
  exact this
theorem Fs (l : List Int) {a b : Int} (ha : 0 ≤ a ∧ a ≤ 255) (hb : 0 ≤ b ∧ b ≤ 255) : Lib.byteCells (Bench.gA (l ++ [a, b])) = Lib.byteCells (Bench.gA l) ++ [.int .u8 a] ++ [.int .u8 b] := by
  have e1 : Bench.gA (l ++ [a, b]) = Bench.gA l ++ [UInt8.ofNat a.toNat, UInt8.ofNat b.toNat] := by simp [Bench.gA]
  have v : ∀ n : Int, 0 ≤ n ∧ n ≤ 255 → (((UInt8.ofNat n.toNat).toNat : Nat) : Int) = n := fun n h => by
    rw [UInt8.toNat_ofNat', Nat.mod_eq_of_lt (by omega)]
    omega
  rw [e1, Lib.byteCells_append, List.append_assoc]
  congr 1
  show [Value.int .u8 _, Value.int .u8 _] = _
  rw [v a ha, v b hb]
  rfl
theorem Im (l : List Int) (b : Int) : ry (l ++ [b]) = ry l ++ [yt (b / 16), yt (b % 16)] := by
  unfold ry
  rw [List.map_append, List.flatten_append]
  simp
theorem KG (xs : List Int) (A : Option Addr) (c : Nat) (w : World) (hlen : xs.length ≤ 1048576) (hc : xs.length ≤ c)
    (hR : ∀ (i : Nat) x, xs[i]? = some x → 0 ≤ x ∧ x ≤ 255)
    (hC : 0 < xs.length → ∃ b o, A = some ⟨b, o, none⟩ ∧ b < w.heap.size ∧ ∀ (i : Nat) x, xs[i]? = some x → w.cell? ⟨b, o + i, none⟩ = some (.int .u8 x)) :
    Calls Tryz.prog 18 #[.slice A xs.length c] w fun e w' => e = .returned (.string (mkStr (pG xs))) ∧ Below w.heap.size w w' := by
  by_cases h0 : xs.length = 0
  · have hx : xs = [] := List.length_eq_zero_iff.1 h0
    subst hx
    go_enter Tryz.func18, Tryz.ntmps18
    go_wp2
    go_ret
    exact ⟨rfl, Below.refl _ _⟩
  have e0 : ((xs.length : Int) == 0) = false := by rw [beq_eq_false_iff_ne]; omega
  go_enter Tryz.func18, Tryz.ntmps18
  go_wp2_with (simp only [e0])
  go_loopw [11] (fun vi wr => ∃ k : Nat, k ≤ xs.length ∧ vi = .int .i64 k ∧ Lib.IsBuilder 112 5 w.heap.size w.heap.size (Lib.byteCells (Bench.gA (ry (xs.take k)))) wr ∧ Below w.heap.size w wr) (fun vi _ => xs.length - (intOf vi).toNat)
  case atStart => exact ⟨0, by omega, rfl, Lib.fresh_isBuilder 112 5 w, (Below.refl _ w).alloc (Nat.le_refl _) _⟩
  case round =>
    obtain ⟨k, hk, rfl, hI, hbw⟩ := hrel
    by_cases hkn : k < xs.length
    · obtain ⟨x, hx⟩ : ∃ x, xs[k]? = some x := ⟨_, List.getElem?_eq_getElem hkn⟩
      obtain ⟨b, o, rfl, hb, hcell⟩ := hC (by omega)
      have hcl : wr.cell? ⟨b, o + k, none⟩ = some (.int .u8 x) := (hbw.cell (p := ⟨b, o + k, none⟩) hb).trans (hcell k x hx)
      clear hcell
      obtain ⟨r0, r1⟩ := hR k x hx
      have hand := UE r0 r1
      have hs1 : (1 : Nat) ≤ 1 := Nat.le_refl 1
      have hlb : (Lib.byteCells (Bench.gA (ry (xs.take k)))).length ≤ 2097152 := by
        rw [Lib.byteCells_length]
        unfold Bench.gA
        rw [List.length_map, rW, List.length_take]
        omega
      have hsz := hbw.size
      go_wp2_with (go_at_call 32; refine (uz w.heap.size w.heap.size _ _ _ hI (by omega) hsz).mono ?_)
      · rintro e w1 ⟨rfl, hI1, hb1⟩
        have hb2 : Below w.heap.size w w1 := hbw.trans hb1
        have hsz2 := hb2.size
        clear hb1 hI
        go_wp2_with (first | (simp only [hand]) | (go_at_call 32; refine (uz w.heap.size w.heap.size _ _ _ (.inr hI1) (by simp only [List.length_append, List.length_singleton]; omega) hsz2).mono ?_))
        rintro e w3 ⟨rfl, hI3, hb3⟩
        have hb4 : Below w.heap.size w w3 := hb2.trans hb3
        rw [VJ (x / 16) (by omega) (by omega), VJ (x % 16) (by omega) (by omega)] at hI3
        clear hb3 hb2 hI1
        go_wp2
        have et : xs.take (k + 1) = xs.take k ++ [x] := by rw [List.take_add_one, hx]; rfl
        refine ⟨⟨k + 1, by omega, rfl, ?_, hb4⟩, by simp [intOf]; omega⟩
        rw [et, Im, Fs _ (qF (by omega) (by omega)) (qF (by omega) (by omega))]
        exact .inr hI3
    · have hkk : k = xs.length := by omega
      subst hkk
      rw [List.take_length] at hI
      have hP : pG xs = ry xs := by
        unfold pG
        rw [if_neg]
        intro h
        rw [h] at h0
        exact h0 rfl
      go_wp2_with (go_at_call 33; refine (Any.Builder_String_any Bench.TW Bench.bX w.heap.size w.heap.size (Bench.gA (ry xs)) _ hI hbw.size).mono ?_)
      rintro e w3 ⟨rfl, hb3⟩
      go_wp2
      go_ret
      rw [hP]
      exact ⟨rfl, hbw.trans hb3⟩
theorem Cg {l : List Int} (h : l.length ≤ 1048576) (hr : ∀ b ∈ l, 0 ≤ b ∧ b ≤ 255) : bN (pG l) := by
  unfold pG
  split
  · exact ⟨by simp, fun b hb => by rw [List.mem_singleton] at hb; omega⟩
  · refine ⟨by rw [rW]; omega, fun b hb => ?_⟩
    unfold ry at hb
    obtain ⟨m, hm, hb⟩ := List.mem_flatten.1 hb
    obtain ⟨x, hx, rfl⟩ := List.mem_map.1 hm
    have := hr x hx
    have h1 := qF (n := x / 16) (by omega) (by omega)
    have h2 := qF (n := x % 16) (by omega) (by omega)
    simp only [List.mem_cons, List.not_mem_nil, or_false] at hb
    rcases hb with e | e <;> subst e <;> assumption
theorem S3 : aX Tryz.prog 18 U2 := by
  refine ⟨⟨Tryz.f18, Tryz.func18, by kernel_rfl, by kernel_rfl⟩, fun S w args x hS hgl hargs hpre => ?_⟩
  obtain ⟨xs, u⟩ := x
  change List Int at xs
  have hpre : xs.length ≤ 1048576 := hpre
  obtain ⟨l⟩ := args
  match l, hargs with
  | [], h => exact h.elim
  | [v], h =>
    obtain ⟨A, c, h1, hc, hm, hA⟩ : ∃ A c, [v] = [Value.slice A xs.length c] ∧ xs.length ≤ c ∧ c ≤ maxLen ∧
      (0 < xs.length → ∃ b o, A = some ⟨b, o, none⟩ ∧ S b ∧ ∀ (i : Nat) x, xs[i]? = some x → ∃ l, (∀ (j : Nat) v, l[j]? = some v → w.cell? ⟨b, o + (i * 1 + j), none⟩ = some v) ∧ Rd S w U8 l x) := h.1
    injection h1 with h1
    subst h1
    have hrng : ∀ (i : Nat) x, xs[i]? = some x → 0 ≤ x ∧ x ≤ 255 := fun i x hx => by
      obtain ⟨b, o, -, -, h3⟩ := hA (Nat.lt_of_le_of_lt (Nat.zero_le _) (List.getElem?_eq_some_iff.1 hx).1)
      obtain ⟨l, -, h4⟩ := h3 i x hx
      exact h4.2
    have key := KG xs A c w hpre hc hrng (fun hp => by
      obtain ⟨b, o, h1, h2, h3⟩ := hA hp
      refine ⟨b, o, h1, hS b h2, fun i x hx => ?_⟩
      obtain ⟨l, h5, h4⟩ := h3 i x hx
      have h6 : l = [.int .u8 x] := h4.1
      subst h6
      have := h5 0 _ rfl
      simpa using this)
    refine key.mono fun e w' h => ?_
    obtain ⟨rfl, hb⟩ := h
    refine ⟨_, rfl, ?_, hb⟩
    show mY S w' .str (.string (mkStr (pG xs))) (pG xs)
    exact ⟨rfl, Cg hpre (fun b hb => by
      obtain ⟨i, hi⟩ := List.getElem?_of_mem hb
      exact hrng i b hi)⟩
  | _ :: _ :: _, h => exact h.2.elim
end Go.Proofs.YtlnlichdidobpaaGreatDoor.Tell
