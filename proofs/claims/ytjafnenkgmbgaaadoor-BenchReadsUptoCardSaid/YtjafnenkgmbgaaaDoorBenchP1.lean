/-
  BenchReads: decimal numbers, bytes, and a text cut at one byte.
-/
import Derived.Test.YtjafnenkgmbgaaaDoorBenchP0
namespace Go.Proofs.YtjafnenkgmbgaaaDoor.Bench
open Go.Sx
set_option maxRecDepth 100000
set_option maxHeartbeats 1000000
set_option linter.unusedSimpArgs false
set_option linter.unusedVariables false

theorem p8_un8 (l : List UInt8) : by8 (un8 l) = l := by
  unfold by8 un8
  rw [List.map_map]
  refine List.map_id'' (fun b => ?_) l
  simp
theorem pun8_by8 {l : List Int} (h : ∀ b ∈ l, 0 ≤ b ∧ b ≤ 255) : un8 (by8 l) = l := by
  unfold by8 un8
  rw [List.map_map]
  refine (List.map_congr_left (g := id) fun b hb => ?_).trans (List.map_id l)
  have := h b hb
  simp only [Function.comp, id]
  have e : (UInt8.ofNat b.toNat).toNat = b.toNat := by
    rw [UInt8.toNat_ofNat']
    exact Nat.mod_eq_of_lt (by omega)
  rw [e]
  omega
theorem un8_rng (l : List UInt8) : ∀ b ∈ un8 l, 0 ≤ b ∧ b ≤ 255 := by
  intro b hb
  unfold un8 at hb
  obtain ⟨c, _, rfl⟩ := List.mem_map.1 hb
  have := c.toNat_lt
  omega
theorem by8_app (a b : List Int) : by8 (a ++ b) = by8 a ++ by8 b := by unfold by8; exact List.map_append
theorem decDigits_dig (u : Nat) : ∀ b ∈ Go.Lib.decDigits u, 48 ≤ b.toNat ∧ b.toNat ≤ 57 := by
  induction u using Nat.strongRecOn with
  | _ u ih =>
    intro b hb
    have one : ∀ k : Nat, k < 10 → (UInt8.ofNat (48 + k)).toNat = 48 + k := fun k hk => by
      rw [UInt8.toNat_ofNat']
      exact Nat.mod_eq_of_lt (by omega)
    rw [Go.Lib.decDigits] at hb
    split at hb
    · rename_i h
      rw [List.mem_singleton] at hb
      rw [hb, one u h]
      omega
    · rename_i h
      rcases List.mem_append.1 hb with hb | hb
      · exact ih (u / 10) (by omega) b hb
      · rw [List.mem_singleton] at hb
        rw [hb, one (u % 10) (by omega)]
        omega
theorem decDigits_len {k u : Nat} (h : u < 10 ^ (k + 1)) : 1 ≤ (Go.Lib.decDigits u).length ∧ (Go.Lib.decDigits u).length ≤ k + 1 := by
  induction k generalizing u with
  | zero =>
    rw [Go.Lib.decDigits, dif_pos (by simpa using h)]
    simp
  | succ k ih =>
    rw [Go.Lib.decDigits]
    split
    · simp
    · rw [List.length_append, List.length_singleton]
      rw [Nat.pow_succ] at h
      have := ih (u := u / 10) (by omega)
      omega
theorem dec_len {n : Int} (h : n ≤ 1099511627776) : 1 ≤ (dec n).length ∧ (dec n).length ≤ 13 := by
  unfold dec un8
  rw [List.length_map]
  exact decDigits_len (k := 12) (by have : (10 : Nat) ^ (12 + 1) = 10000000000000 := by decide
                                    omega)
theorem dec_rng (n : Int) : ∀ b ∈ dec n, 48 ≤ b ∧ b ≤ 57 := by
  intro b hb
  unfold dec un8 at hb
  obtain ⟨c, hc, rfl⟩ := List.mem_map.1 hb
  have := decDigits_dig _ c hc
  omega
theorem dig_val {k : Nat} (hk : k < 10) : (UInt8.ofNat (48 + k)).toNat = 48 + k := by
  rw [UInt8.toNat_ofNat']
  exact Nat.mod_eq_of_lt (by omega)
theorem puM_dec {M : Nat} (hM : M ≤ 18446744073709551615) (u : Nat) : ∀ r : List UInt8, u ≤ M → Go.Lib.parseUintM M 0 (Go.Lib.decDigits u ++ r) = Go.Lib.parseUintM M u r := by
  induction u using Nat.strongRecOn with
  | _ u ih =>
    intro r hu
    rw [Go.Lib.decDigits]
    split
    · rename_i h
      rw [List.singleton_append, Go.Lib.parseUintM, dig_val h, if_pos (by omega), if_neg (by omega), if_neg (by omega)]
      congr 1
      omega
    · rename_i h
      rw [List.append_assoc, ih (u / 10) (by omega) _ (by omega), List.singleton_append, Go.Lib.parseUintM, dig_val (by omega), if_pos (by omega), if_neg (by omega), if_neg (by omega)]
      congr 1
      omega
theorem pu10_dec (u : Nat) : ∀ r : List UInt8, u < 18446744073709551616 → Go.Lib.parseUint10 0 (Go.Lib.decDigits u ++ r) = Go.Lib.parseUint10 u r := by
  induction u using Nat.strongRecOn with
  | _ u ih =>
    intro r hu
    rw [Go.Lib.decDigits]
    split
    · rename_i h
      rw [List.singleton_append, Go.Lib.parseUint10, dig_val h, if_pos (by omega), if_neg (by omega), if_neg (by omega)]
      congr 1
      omega
    · rename_i h
      rw [List.append_assoc, ih (u / 10) (by omega) _ (by omega), List.singleton_append, Go.Lib.parseUint10, dig_val (by omega), if_pos (by omega), if_neg (by omega), if_neg (by omega)]
      congr 1
      omega
theorem pu_dec {n : Int} (h0 : 0 ≤ n) (h1 : n ≤ 1099511627776) : puEnd (dec n) = .ok n.toNat := by
  have hne : Go.Lib.decDigits n.toNat ≠ [] := fun e => by
    have := (decDigits_len (k := 12) (u := n.toNat) (by have : (10 : Nat) ^ (12 + 1) = 10000000000000 := by decide
                                                        omega)).1
    rw [e] at this
    simp at this
  unfold puEnd dec
  rw [p8_un8, Go.Lib.parseUintB, if_neg hne]
  have := puM_dec (M := 2 ^ 41 - 1) (by decide) n.toNat [] (by have : (2 : Nat) ^ 41 - 1 = 2199023255551 := by decide
                                                               omega)
  rw [List.append_nil] at this
  rw [this]
  rfl
theorem pu41V_dec {n : Int} (h0 : 0 ≤ n) (h1 : n ≤ 1099511627776) : pu41V (dec n) = n := by
  unfold pu41V
  rw [pu_dec h0 h1]
  exact Int.toNat_of_nonneg h0
theorem pu41E_dec {n : Int} (h0 : 0 ≤ n) (h1 : n ≤ 1099511627776) : pu41E (dec n) = false := by
  unfold pu41E
  rw [pu_dec h0 h1]
theorem pu41V_nn (s : List Int) : 0 ≤ pu41V s := by
  unfold pu41V
  split
  · exact Int.natCast_nonneg _
  · decide
  · decide
theorem atoi_dec {n : Int} (h0 : 0 ≤ n) (h1 : n ≤ 1099511627776) : Go.Lib.atoiAll (by8 (dec n)) = .ok n := by
  have hne : Go.Lib.decDigits n.toNat ≠ [] := fun e => by
    have := (decDigits_len (k := 12) (u := n.toNat) (by have : (10 : Nat) ^ (12 + 1) = 10000000000000 := by decide
                                                        omega)).1
    rw [e] at this
    simp at this
  unfold dec
  rw [p8_un8]
  have hd := decDigits_dig n.toNat
  have hp := pu10_dec n.toNat [] (by omega)
  rw [List.append_nil] at hp
  generalize Go.Lib.decDigits n.toNat = l at hne hd hp
  cases l with
  | nil => exact absurd rfl hne
  | cons c r =>
    have hc := hd c (List.mem_cons_self ..)
    unfold Go.Lib.atoiAll
    simp only []
    rw [if_neg (by omega), Go.Lib.parseMag, if_neg hne, hp]
    simp only [Go.Lib.parseUint10]
    rw [if_neg (by omega), if_neg (by omega), if_neg (by omega)]
    congr 1
    omega
theorem atoiV_dec {n : Int} (h0 : 0 ≤ n) (h1 : n ≤ 1099511627776) : atoiV (dec n) = n := by
  unfold atoiV
  rw [atoi_dec h0 h1]
theorem atoiE_dec {n : Int} (h0 : 0 ≤ n) (h1 : n ≤ 1099511627776) : atoiE (dec n) = false := by
  unfold atoiE
  rw [atoi_dec h0 h1]
theorem index_hit (c : UInt8) (r : List UInt8) : ∀ p : List UInt8, c ∉ p → Go.Lib.index (p ++ c :: r) [c] = p.length
  | [], _ => by simp [Go.Lib.index]
  | b :: p, h => by
    have hcb : ¬ c = b := fun e => h (e ▸ List.mem_cons_self ..)
    have ih := index_hit c r p (fun e => h (List.mem_cons_of_mem _ e))
    rw [List.cons_append, Go.Lib.index, ih]
    have : ((p.length : Int) == -1) = false := by rw [beq_eq_false_iff_ne]; omega
    simp [hcb, this]
theorem index_miss (c : UInt8) : ∀ p : List UInt8, c ∉ p → Go.Lib.index p [c] = -1
  | [], _ => by simp [Go.Lib.index]
  | b :: p, h => by
    have hcb : ¬ c = b := fun e => h (e ▸ List.mem_cons_self ..)
    have ih := index_miss c p (fun e => h (List.mem_cons_of_mem _ e))
    rw [Go.Lib.index, ih]
    simp [hcb]
theorem by8_mem {p : List Int} {c : Int} (hp : ∀ b ∈ p, 0 ≤ b ∧ b ≤ 255) (hc : 0 ≤ c ∧ c ≤ 255) (h : c ∉ p) : UInt8.ofNat c.toNat ∉ by8 p := by
  intro hm
  unfold by8 at hm
  obtain ⟨b, hb, e⟩ := List.mem_map.1 hm
  have := hp b hb
  have e := congrArg UInt8.toNat e
  rw [UInt8.toNat_ofNat', UInt8.toNat_ofNat'] at e
  have : b = c := by omega
  exact h (this ▸ hb)
theorem cut_hit {p r : List Int} {c : Int} (hp : ∀ b ∈ p, 0 ≤ b ∧ b ≤ 255) (hr : ∀ b ∈ r, 0 ≤ b ∧ b ≤ 255) (hc : 0 ≤ c ∧ c ≤ 255) (h : c ∉ p) :
    cutA (p ++ c :: r) [c] = p ∧ cutB (p ++ c :: r) [c] = r ∧ cutC (p ++ c :: r) [c] = true := by
  have e : by8 (p ++ c :: r) = by8 p ++ UInt8.ofNat c.toNat :: by8 r := by unfold by8; simp
  have e1 : by8 [c] = [UInt8.ofNat c.toNat] := rfl
  have hi := index_hit (UInt8.ofNat c.toNat) (by8 r) (by8 p) (by8_mem hp hc h)
  have hcut : Go.Lib.cut (by8 (p ++ c :: r)) (by8 [c]) = (by8 p, by8 r, true) := by
    rw [e, e1, Go.Lib.cut, hi, if_pos (by omega)]
    simp
  unfold cutA cutB cutC
  rw [hcut]
  exact ⟨pun8_by8 hp, pun8_by8 hr, rfl⟩
theorem cut_miss {p : List Int} {c : Int} (hp : ∀ b ∈ p, 0 ≤ b ∧ b ≤ 255) (hc : 0 ≤ c ∧ c ≤ 255) (h : c ∉ p) :
    cutA p [c] = p ∧ cutB p [c] = [] ∧ cutC p [c] = false := by
  have e1 : by8 [c] = [UInt8.ofNat c.toNat] := rfl
  have hi := index_miss (UInt8.ofNat c.toNat) (by8 p) (by8_mem hp hc h)
  have hcut : Go.Lib.cut (by8 p) (by8 [c]) = (by8 p, [], false) := by
    rw [e1, Go.Lib.cut, hi, if_neg (by omega)]
  unfold cutA cutB cutC
  rw [hcut]
  exact ⟨pun8_by8 hp, rfl, rfl⟩
theorem pcut_len (s t : List Int) : (cutA s t).length ≤ s.length ∧ (cutB s t).length ≤ s.length := by
  have hl : (by8 s).length = s.length := by unfold by8; simp
  unfold cutA cutB un8
  rw [List.length_map, List.length_map, ← hl]
  unfold Go.Lib.cut
  split
  · simp only [List.length_take, List.length_drop]
    omega
  · simp
/- A text has its first byte c, or none. -/
theorem split_at (c : Int) : ∀ s : List Int, c ∉ s ∨ ∃ p r, s = p ++ c :: r ∧ c ∉ p
  | [] => Or.inl (by simp)
  | b :: s => by
    by_cases h : b = c
    · exact Or.inr ⟨[], s, by simp [h], by simp⟩
    · rcases split_at c s with h1 | ⟨p, r, e, h1⟩
      · exact Or.inl (by simp [h1, Ne.symm h])
      · exact Or.inr ⟨b :: p, r, by simp [e], by simp [h1, Ne.symm h]⟩

end Go.Proofs.YtjafnenkgmbgaaaDoor.Bench
