/-
 The conditions, proved.
-/
import Derived.Test.YtdhldloajddfiaaGreatDoorBenchE
namespace Go.Proofs.YtdhldloajddfiaaGreatDoor.Bench
open Go.Sx
set_option maxRecDepth 100000
set_option maxHeartbeats 1000000
set_option linter.unusedSimpArgs false
set_option linter.unusedVariables false

theorem takeI_succ {α : Type} (d : α) {l : List α} {k : Int} (h0 : 0 ≤ k) (h1 : k < l.length) : l.take (k + 1).toNat = l.take k.toNat ++ [l.getD k.toNat d] := by
 have e : (k + 1).toNat = k.toNat + 1 := by omega
 have hlt : k.toNat < l.length := by omega
 rw [e, List.take_add_one, List.getElem?_eq_getElem hlt]
 simp [hlt]
theorem takeI_all {α : Type} {l : List α} {k : Int} (h : (l.length : Int) ≤ k) : l.take k.toNat = l := List.take_of_length_le (by omega)
theorem take_len {α : Type} {l : List α} : l.take (l.length : Int).toNat = l := by simp
theorem e_words (x : Unit) (_ : True) (hl : LensL cWords.as x) : E_words x := by
 unfold E_words
 rfl
theorem wrap8 (n : Int) : IntKind.u8.wrap n = n % 256 := by
 simp [IntKind.wrap, IntKind.bits, IntKind.signed]

theorem p8_un8 (l : List UInt8) : by8 (un8 l) = l := by
 unfold by8 un8
 rw [List.map_map]
 refine List.map_id'' (fun b => ?_) l
 simp
theorem pun8_by8 {l : List Int} (h : ∀ b ∈ l, 0 ≤ b ∧ b ≤ 255) : un8 (by8 l) = l := by
 unfold by8 un8
 rw [List.map_map]
 refine (List.map_congr_left (g := id) fun b hb => ?_).trans (List.map_id l)
 have := h b hb
 simp only [Function.comp, id]
 have e : (UInt8.ofNat b.toNat).toNat = b.toNat := by
  rw [UInt8.toNat_ofNat']
  exact Nat.mod_eq_of_lt (by omega)
 rw [e]
 omega
theorem un8_rng (l : List UInt8) : ∀ b ∈ un8 l, 0 ≤ b ∧ b ≤ 255 := by
 intro b hb
 unfold un8 at hb
 obtain ⟨c, _, rfl⟩ := List.mem_map.1 hb
 have := c.toNat_lt
 omega
theorem by8_app (a b : List Int) : by8 (a ++ b) = by8 a ++ by8 b := by unfold by8; exact List.map_append
theorem decDigits_dig (u : Nat) : ∀ b ∈ Go.Lib.decDigits u, 48 ≤ b.toNat ∧ b.toNat ≤ 57 := by
 induction u using Nat.strongRecOn with
 | _ u ih =>
  intro b hb
  have one : ∀ k : Nat, k < 10 → (UInt8.ofNat (48 + k)).toNat = 48 + k := fun k hk => by
   rw [UInt8.toNat_ofNat']
   exact Nat.mod_eq_of_lt (by omega)
  rw [Go.Lib.decDigits] at hb
  split at hb
  ·rename_i h
   rw [List.mem_singleton] at hb
   rw [hb, one u h]
   omega
  ·rename_i h
   rcases List.mem_append.1 hb with hb | hb
   ·exact ih (u / 10) (by omega) b hb
   ·rw [List.mem_singleton] at hb
    rw [hb, one (u % 10) (by omega)]
    omega
theorem decDigits_len {k u : Nat} (h : u < 10 ^ (k + 1)) : 1 ≤ (Go.Lib.decDigits u).length ∧ (Go.Lib.decDigits u).length ≤ k + 1 := by
 induction k generalizing u with
 | zero =>
  rw [Go.Lib.decDigits, dif_pos (by simpa using h)]
  simp
 | succ k ih =>
  rw [Go.Lib.decDigits]
  split
  ·simp
  ·rw [List.length_append, List.length_singleton]
   rw [Nat.pow_succ] at h
   have := ih (u := u / 10) (by omega)
   omega
theorem dec_len {n : Int} (h : n ≤ 1099511627776) : 1 ≤ (dec n).length ∧ (dec n).length ≤ 13 := by
 unfold dec un8
 rw [List.length_map]
 exact decDigits_len (k := 12) (by rw [show (10 : Nat) ^ (12 + 1) = 10000000000000 from by decide]; omega)
theorem dec_rng (n : Int) : ∀ b ∈ dec n, 48 ≤ b ∧ b ≤ 57 := by
 intro b hb
 unfold dec un8 at hb
 obtain ⟨c, hc, rfl⟩ := List.mem_map.1 hb
 have := decDigits_dig _ c hc
 omega
theorem dig_val {k : Nat} (hk : k < 10) : (UInt8.ofNat (48 + k)).toNat = 48 + k := by
 rw [UInt8.toNat_ofNat']
 exact Nat.mod_eq_of_lt (by omega)
theorem puM_dec {M : Nat} (hM : M ≤ 18446744073709551615) (u : Nat) : ∀ r : List UInt8, u ≤ M → Go.Lib.parseUintM M 0 (Go.Lib.decDigits u ++ r) = Go.Lib.parseUintM M u r := by
 induction u using Nat.strongRecOn with
 | _ u ih =>
  intro r hu
  rw [Go.Lib.decDigits]
  split
  ·rename_i h
   rw [List.singleton_append, Go.Lib.parseUintM, dig_val h, if_pos (by omega), if_neg (by omega), if_neg (by omega)]
   congr 1
   omega
  ·rename_i h
   rw [List.append_assoc, ih (u / 10) (by omega) _ (by omega), List.singleton_append, Go.Lib.parseUintM, dig_val (by omega), if_pos (by omega), if_neg (by omega), if_neg (by omega)]
   congr 1
   omega
theorem pu10_dec (u : Nat) : ∀ r : List UInt8, u < 18446744073709551616 → Go.Lib.parseUint10 0 (Go.Lib.decDigits u ++ r) = Go.Lib.parseUint10 u r := by
 induction u using Nat.strongRecOn with
 | _ u ih =>
  intro r hu
  rw [Go.Lib.decDigits]
  split
  ·rename_i h
   rw [List.singleton_append, Go.Lib.parseUint10, dig_val h, if_pos (by omega), if_neg (by omega), if_neg (by omega)]
   congr 1
   omega
  ·rename_i h
   rw [List.append_assoc, ih (u / 10) (by omega) _ (by omega), List.singleton_append, Go.Lib.parseUint10, dig_val (by omega), if_pos (by omega), if_neg (by omega), if_neg (by omega)]
   congr 1
   omega
theorem pu_dec {n : Int} (h0 : 0 ≤ n) (h1 : n ≤ 1099511627776) : puEnd (dec n) = .ok n.toNat := by
 have hne : Go.Lib.decDigits n.toNat ≠ [] := fun e => by
  have := (decDigits_len (k := 12) (u := n.toNat) (by rw [show (10 : Nat) ^ (12 + 1) = 10000000000000 from by decide]; omega)).1
  rw [e] at this
  simp at this
 unfold puEnd dec
 rw [p8_un8, Go.Lib.parseUintB, if_neg hne]
 have := puM_dec (M := 2 ^ 41 - 1) (by decide) n.toNat [] (by rw [show (2 : Nat) ^ 41 - 1 = 2199023255551 from by decide]; omega)
 rw [List.append_nil] at this
 rw [this]
 rfl
theorem pu41V_dec {n : Int} (h0 : 0 ≤ n) (h1 : n ≤ 1099511627776) : pu41V (dec n) = n := by
 unfold pu41V
 rw [pu_dec h0 h1]
 exact Int.toNat_of_nonneg h0
theorem pu41E_dec {n : Int} (h0 : 0 ≤ n) (h1 : n ≤ 1099511627776) : pu41E (dec n) = false := by
 unfold pu41E
 rw [pu_dec h0 h1]
theorem pu41V_nn (s : List Int) : 0 ≤ pu41V s := by
 unfold pu41V
 split
 ·exact Int.natCast_nonneg _
 ·decide
 ·decide
theorem atoi_dec {n : Int} (h0 : 0 ≤ n) (h1 : n ≤ 1099511627776) : Go.Lib.atoiAll (by8 (dec n)) = .ok n := by
 have hne : Go.Lib.decDigits n.toNat ≠ [] := fun e => by
  have := (decDigits_len (k := 12) (u := n.toNat) (by rw [show (10 : Nat) ^ (12 + 1) = 10000000000000 from by decide]; omega)).1
  rw [e] at this
  simp at this
 unfold dec
 rw [p8_un8]
 have hd := decDigits_dig n.toNat
 have hp := pu10_dec n.toNat [] (by omega)
 rw [List.append_nil] at hp
 generalize Go.Lib.decDigits n.toNat = l at hne hd hp
 cases l with
 | nil => exact absurd rfl hne
 | cons c r =>
  have hc := hd c (List.mem_cons_self ..)
  unfold Go.Lib.atoiAll
  simp only []
  rw [if_neg (by omega), Go.Lib.parseMag, if_neg hne, hp]
  simp only [Go.Lib.parseUint10]
  rw [if_neg (by omega), if_neg (by omega), if_neg (by omega)]
  congr 1
  omega
theorem atoiV_dec {n : Int} (h0 : 0 ≤ n) (h1 : n ≤ 1099511627776) : atoiV (dec n) = n := by
 unfold atoiV
 rw [atoi_dec h0 h1]
theorem atoiE_dec {n : Int} (h0 : 0 ≤ n) (h1 : n ≤ 1099511627776) : atoiE (dec n) = false := by
 unfold atoiE
 rw [atoi_dec h0 h1]
theorem index_hit (c : UInt8) (r : List UInt8) : ∀ p : List UInt8, c ∉ p → Go.Lib.index (p ++ c :: r) [c] = p.length
 | [], _ => by simp [Go.Lib.index]
 | b :: p, h => by
  have hcb : ¬ c = b := fun e => h (e ▸ List.mem_cons_self ..)
  have ih := index_hit c r p (fun e => h (List.mem_cons_of_mem _ e))
  rw [List.cons_append, Go.Lib.index, ih]
  have : ((p.length : Int) == -1) = false := by rw [beq_eq_false_iff_ne]; omega
  simp [hcb, this]
theorem index_miss (c : UInt8) : ∀ p : List UInt8, c ∉ p → Go.Lib.index p [c] = -1
 | [], _ => by simp [Go.Lib.index]
 | b :: p, h => by
  have hcb : ¬ c = b := fun e => h (e ▸ List.mem_cons_self ..)
  have ih := index_miss c p (fun e => h (List.mem_cons_of_mem _ e))
  rw [Go.Lib.index, ih]
  simp [hcb]
theorem by8_mem {p : List Int} {c : Int} (hp : ∀ b ∈ p, 0 ≤ b ∧ b ≤ 255) (hc : 0 ≤ c ∧ c ≤ 255) (h : c ∉ p) : UInt8.ofNat c.toNat ∉ by8 p := by
 intro hm
 unfold by8 at hm
 obtain ⟨b, hb, e⟩ := List.mem_map.1 hm
 have := hp b hb
 have e := congrArg UInt8.toNat e
 rw [UInt8.toNat_ofNat', UInt8.toNat_ofNat'] at e
 have : b = c := by omega
 exact h (this ▸ hb)
theorem cut_hit {p r : List Int} {c : Int} (hp : ∀ b ∈ p, 0 ≤ b ∧ b ≤ 255) (hr : ∀ b ∈ r, 0 ≤ b ∧ b ≤ 255) (hc : 0 ≤ c ∧ c ≤ 255) (h : c ∉ p) :
  cutA (p ++ c :: r) [c] = p ∧ cutB (p ++ c :: r) [c] = r ∧ cutC (p ++ c :: r) [c] = true := by
 have e : by8 (p ++ c :: r) = by8 p ++ UInt8.ofNat c.toNat :: by8 r := by unfold by8; simp
 have e1 : by8 [c] = [UInt8.ofNat c.toNat] := rfl
 have hi := index_hit (UInt8.ofNat c.toNat) (by8 r) (by8 p) (by8_mem hp hc h)
 have hcut : Go.Lib.cut (by8 (p ++ c :: r)) (by8 [c]) = (by8 p, by8 r, true) := by
  rw [e, e1, Go.Lib.cut, hi, if_pos (by omega)]
  simp
 unfold cutA cutB cutC
 rw [hcut]
 exact ⟨pun8_by8 hp, pun8_by8 hr, rfl⟩
theorem cut_miss {p : List Int} {c : Int} (hp : ∀ b ∈ p, 0 ≤ b ∧ b ≤ 255) (hc : 0 ≤ c ∧ c ≤ 255) (h : c ∉ p) :
  cutA p [c] = p ∧ cutB p [c] = [] ∧ cutC p [c] = false := by
 have e1 : by8 [c] = [UInt8.ofNat c.toNat] := rfl
 have hi := index_miss (UInt8.ofNat c.toNat) (by8 p) (by8_mem hp hc h)
 have hcut : Go.Lib.cut (by8 p) (by8 [c]) = (by8 p, [], false) := by
  rw [e1, Go.Lib.cut, hi, if_neg (by omega)]
 unfold cutA cutB cutC
 rw [hcut]
 exact ⟨pun8_by8 hp, rfl, rfl⟩
theorem pcut_len (s t : List Int) : (cutA s t).length ≤ s.length ∧ (cutB s t).length ≤ s.length := by
 have hl : (by8 s).length = s.length := by unfold by8; simp
 unfold cutA cutB un8
 rw [List.length_map, List.length_map, ← hl]
 unfold Go.Lib.cut
 split
 ·simp only [List.length_take, List.length_drop]
  omega
 ·simp
theorem split_at (c : Int) : ∀ s : List Int, c ∉ s ∨ ∃ p r, s = p ++ c :: r ∧ c ∉ p
 | [] => Or.inl (by simp)
 | b :: s => by
  by_cases h : b = c
  ·exact Or.inr ⟨[], s, by simp [h], by simp⟩
  ·rcases split_at c s with h1 | ⟨p, r, e, h1⟩
   ·exact Or.inl (by simp [h1, Ne.symm h])
   ·exact Or.inr ⟨b :: p, r, by simp [e], by simp [h1, Ne.symm h]⟩

def okN (k n : Int) : Prop := 1 ≤ k ∧ k ≤ 6 ∧ 0 ≤ n ∧ n ≤ 1099511627776 ∧ (k = 1 → n ≤ 255)
def lineOf (k n : Int) : List Int := wordAt k ++ ([32] ++ dec n)
theorem numK_mkO {k n : Int} (h : okN k n) : numK (mkO k n) = n := by
 obtain ⟨h1, h2, h3, h4, h5⟩ := h
 unfold mkO numK
 by_cases e : k = 1
 ·simp only [e, if_true]
  have := h5 e
  omega
 ·by_cases e3 : k = 3
  ·simp [e3]
  ·simp [e, e3]
theorem mkO_1 (k n : Int) : (mkO k n).1 = k := by
 unfold mkO
 by_cases e : k = 1
 ·simp [e]
 ·by_cases e3 : k = 3
  ·simp [e3]
  ·simp [e, e3]
theorem okK_mkO {k n : Int} (h : okN k n) : okK (mkO k n) = true := by
 unfold okK
 rw [mkO_1, numK_mkO h]
 obtain ⟨h1, h2, h3, h4, h5⟩ := h
 exact decide_eq_true ⟨h1, h2, h3, h4⟩
theorem txtK_mkO {k n : Int} (h : okN k n) : txtK (mkO k n) = lineOf k n := by
 unfold txtK lineOf wordAt
 rw [mkO_1, numK_mkO h]
theorem okN_of_okK {k n : Int} (h : okK (mkO k n) = true) : okN k (numK (mkO k n)) ∧ mkO k (numK (mkO k n)) = mkO k n := by
 unfold okK at h
 rw [mkO_1] at h
 have h := of_decide_eq_true h
 obtain ⟨h1, h2, h3, h4⟩ := h
 unfold okN
 unfold numK mkO at h3 h4 ⊢
 by_cases e : k = 1
 ·simp only [e, if_true] at h3 h4 ⊢
  refine ⟨by omega, ?_⟩
  simp
 ·by_cases e3 : k = 3
  ·simp [e3] at h3 h4 ⊢
   omega
  ·simp [e, e3] at h3 h4 ⊢
   omega
theorem readO_true {w : List Int} {n : Int} {s : List Int} : ∀ k : Nat, k ≤ 6 → (readO w n s k).2 = true → ∃ q m, okN q m ∧ s = lineOf q m ∧ (readO w n s k).1 = mkO q m
 | 0, _, h => by simp [readO] at h
 | k + 1, hk, h => by
  unfold readO at h ⊢
  by_cases e : wordsK.getD (6 - (k + 1)) [] = w
  ·rw [if_pos e] at h ⊢
   simp only [Bool.and_eq_true, decide_eq_true_eq] at h
   obtain ⟨h1, h2⟩ := h
   have h3 := okN_of_okK h1
   refine ⟨_, _, h3.1, ?_, h3.2.symm⟩
   rw [← h2]
   have := txtK_mkO h3.1
   rw [h3.2] at this
   exact this
  ·rw [if_neg e] at h ⊢
   exact readO_true k (by omega) h
theorem readB_true {s : List Int} (h : (readB s).2 = true) : ∃ q m, okN q m ∧ s = lineOf q m ∧ (readB s).1 = mkO q m := by
 unfold readB at h ⊢
 split at h
 ·cases h
 ·rename_i e
  rw [if_neg e]
  exact readO_true 6 (by omega) h
theorem wordAt_rng {k : Int} (h1 : 1 ≤ k) (h2 : k ≤ 6) : (∀ b ∈ wordAt k, 0 ≤ b ∧ b ≤ 255) ∧ (32 : Int) ∉ wordAt k := by
 have : k = 1 ∨ k = 2 ∨ k = 3 ∨ k = 4 ∨ k = 5 ∨ k = 6 := by omega
 rcases this with e | e | e | e | e | e <;> subst e <;> exact ⟨by decide, by decide⟩
theorem dec_rng8 (n : Int) : ∀ b ∈ dec n, 0 ≤ b ∧ b ≤ 255 := fun b hb => by have := dec_rng n b hb; omega
theorem readB_line {k n : Int} (h : okN k n) : readB (lineOf k n) = (mkO k n, true) := by
 have h' := h
 obtain ⟨h1, h2, h3, h4, h5⟩ := h'
 have hw := wordAt_rng h1 h2
 have hc := cut_hit (c := 32) hw.1 (dec_rng8 n) (by omega) hw.2
 have ha : cutA (lineOf k n) [32] = wordAt k := hc.1
 have hb : cutB (lineOf k n) [32] = dec n := hc.2.1
 unfold readB
 rw [ha, hb, atoiE_dec h3 h4, atoiV_dec h3 h4, if_neg (by decide)]
 have hok := okK_mkO h
 have htx := txtK_mkO h
 have : k = 1 ∨ k = 2 ∨ k = 3 ∨ k = 4 ∨ k = 5 ∨ k = 6 := by omega
 rcases this with e | e | e | e | e | e <;> subst e <;> simp [readO, wordAt, wordsK, hok, htx]
theorem zreadO_true {s : List Int} : ∀ k : Nat, k ≤ 6 → (zreadO s k).2 = true → ∃ q m, okN q m ∧ s = lineOf q m ∧ (zreadO s k).1 = mkO q m
 | 0, _, h => by simp [zreadO] at h
 | k + 1, hk, h => by
  unfold zreadO at h ⊢
  split at h
  ·rename_i e
   rw [if_pos e]
   exact zreadO_true k (by omega) h
  ·rename_i e
   rw [if_neg e]
   simp only [] at h ⊢
   split at h
   ·cases h
   ·rename_i e2
    rw [if_neg e2]
    simp only [not_or] at e e2
    obtain ⟨e0, e1⟩ := e
    obtain ⟨f0, f1, f2, f3⟩ := e2
    have e1 := Decidable.not_not.1 e1
    have f2 := Decidable.not_not.1 f2
    have hn := pu41V_nn (s.drop ((wordAt (7 - ((k : Int) + 1))).length + 1))
    refine ⟨7 - ((k : Int) + 1), _, ⟨by omega, by omega, hn, by omega, fun e => by omega⟩, ?_, rfl⟩
    unfold lineOf
    rw [f2, ← List.append_assoc, ← e1, List.take_append_drop]
theorem zreadB_line {k n : Int} (h : okN k n) : zreadB (lineOf k n) = (mkO k n, true) := by
 obtain ⟨h1, h2, h3, h4, h5⟩ := h
 have hl := dec_len h4
 have hE := pu41E_dec h3 h4
 have hV := pu41V_dec h3 h4
 have : k = 1 ∨ k = 2 ∨ k = 3 ∨ k = 4 ∨ k = 5 ∨ k = 6 := by omega
 unfold zreadB lineOf
 have hne : dec n ≠ [] := fun e => by rw [e] at hl; simp at hl
 have h6 : ¬ 1099511627776 < n := by omega
 rcases this with e | e | e | e | e | e <;> subst e <;> simp [zreadO, wordAt, wordsK, hE, hV, hne, h6]
 exact h5 rfl
theorem zread_read (s : List Int) : (zreadB s).2 = (readB s).2 ∧ ((readB s).2 = true → (zreadB s).1 = (readB s).1) := by
 cases hr : (readB s).2 with
 | true =>
  obtain ⟨q, m, h1, h2, h3⟩ := readB_true hr
  rw [h3]
  rw [h2, zreadB_line h1]
  exact ⟨rfl, fun _ => rfl⟩
 | false =>
  refine ⟨?_, fun h => by cases h⟩
  cases hz : (zreadB s).2 with
  | false => rfl
  | true =>
   obtain ⟨q, m, h1, h2, h3⟩ := zreadO_true 6 (by omega) hz
   rw [h2, readB_line h1] at hr
   cases hr

theorem word_len {k : Int} (h1 : ¬ k < 1) (h2 : ¬ 6 < k) : (wordsK.getD (k - 1).toNat []).length ≤ 7 := by
 have : k = 1 ∨ k = 2 ∨ k = 3 ∨ k = 4 ∨ k = 5 ∨ k = 6 := by omega
 rcases this with e | e | e | e | e | e <;> subst e <;> decide
theorem okK_bad {k c n b : Int} (h : k < 1 ∨ 6 < k) : okK (k, c, n, b) = false := by
 unfold okK
 exact decide_eq_false fun h' => by
  have h1 : 1 ≤ k := h'.1
  have h2 : k ≤ 6 := h'.2.1
  omega
theorem okK_no {k c n b m : Int} (e : numK (k, c, n, b) = m) (h : m < 0 ∨ 1099511627776 < m) : okK (k, c, n, b) = false := by
 unfold okK
 rw [e]
 exact decide_eq_false fun h' => by
  have h1 := h'.2.2
  omega
theorem okK_yes {k c n b m : Int} (e : numK (k, c, n, b) = m) (h1 : ¬ k < 1) (h2 : ¬ 6 < k) (h3 : ¬ m < 0) (h4 : ¬ 1099511627776 < m) : okK (k, c, n, b) = true := by
 unfold okK
 rw [e]
 refine decide_eq_true ⟨?_, ?_, ?_, ?_⟩
 ·show 1 ≤ k
  omega
 ·show k ≤ 6
  omega
 ·omega
 ·omega
theorem line_yes {k c n b m : Int} (e : numK (k, c, n, b) = m) (h1 : ¬ k < 1) (h2 : ¬ 6 < k) (h3 : ¬ m < 0) (h4 : ¬ 1099511627776 < m) :
  (-9223372036854775808 ≤ k - 1 ∧ k - 1 ≤ 9223372036854775807) ∧ (0 ≤ k - 1 ∧ k - 1 < (wordsK.length : Int)) ∧ (wordsK.getD (k - 1).toNat []).length + 1 ≤ 9223372036854775807 ∧
  (0 ≤ m ∧ m ≤ 1099511627776) ∧ (wordsK.getD (k - 1).toNat []).length + 1 + (dec m).length ≤ 9223372036854775807 ∧
  (wordsK.getD (k - 1).toNat [] ++ [32] ++ dec m = if okK (k, c, n, b) = true then txtK (k, c, n, b) else []) ∧ okK (k, c, n, b) = true := by
 have hw := word_len h1 h2
 have hd := dec_len (n := m) (by omega)
 have hk : (wordsK.length : Int) = 6 := rfl
 refine ⟨by omega, by omega, by omega, by omega, by omega, ?_, okK_yes e h1 h2 h3 h4⟩
 rw [if_pos (okK_yes e h1 h2 h3 h4), txtK, e, List.append_assoc]
theorem e_line (x : KO × Unit) (_ : True) (hl : LensL cLine.as x) : E_line x := by
 obtain ⟨⟨k, c, n, b⟩, u⟩ := x
 have hb : 0 ≤ b ∧ b ≤ 255 := hl.1.2.2.2
 change Int at k c n b
 unfold E_line
 delta qline_2 qline_3 qline_4 qline_5 qline_6 qline_1
 simp only [Bool.not_eq_true', Bool.not_eq_false', Bool.not_eq_true, Bool.not_eq_false, beq_self_eq_true, decide_eq_true_eq, decide_eq_false_iff_not, Bool.not_false, Bool.not_true, beq_iff_eq, beq_eq_false_iff_ne, bne_iff_ne, ne_eq, bne_eq_false_iff_eq, holds_iff, true_and, and_true, and_self, eq_self, List.length_cons, List.length_nil, List.length_append, List.length_set, List.length_replicate, List.set_cons_zero, cond_true, cond_false, Bool.false_eq_true, Bool.true_eq_false, forall_const, false_imp_iff, imp_self, implies_true, and_imp, Decidable.not_not, Bool.and_eq_true, Bool.or_eq_true, Bool.and_eq_false_iff, Bool.or_eq_false_iff, ← List.length_eq_zero_iff, or_self, or_false, false_or, Prod.forall, Int.reduceEq, Int.reduceLT, Int.reduceLE, List.nil_append, Nat.zero_add, Int.toNat_zero, List.drop_zero, List.length_drop, List.length_take, not_true_eq_false, not_false_eq_true]
 try simp only [flip_f, flip_t, decide_eq_true_eq, decide_eq_false_iff_not]
 refine ⟨fun h => by rw [okK_bad h]; exact ⟨rfl, rfl⟩, fun h1 h2 => ⟨fun e3 => ⟨fun e1 => by omega, fun e1 => ⟨fun h => ?_, fun h3 h4 => ?_⟩⟩, fun e3 => ⟨fun e1 => ⟨by omega, fun h => ?_, fun h3 h4 => ?_⟩, fun e1 => ⟨fun h => ?_, fun h3 h4 => ?_⟩⟩⟩⟩
 ·rw [okK_no (m := n) (by simp [numK, e3]) h]
  exact ⟨rfl, rfl⟩
 ·exact line_yes (m := n) (by simp [numK, e3]) h1 h2 h3 h4
 ·rw [okK_no (m := b) (by simp [numK, e1]) h]
  exact ⟨rfl, rfl⟩
 ·exact line_yes (m := b) (by simp [numK, e1]) h1 h2 h3 h4
 ·rw [okK_no (m := c) (by simp [numK, e1, e3]) h]
  exact ⟨rfl, rfl⟩
 ·exact line_yes (m := c) (by simp [numK, e1, e3]) h1 h2 h3 h4
theorem readO_step {w : List Int} {n : Int} {s : List Int} {a : Int} (h0 : 0 ≤ a) (h1 : a < 6) : readO w n s (6 - a).toNat = if wordsK.getD a.toNat [] = w then (mkO (1 + a) n, okK (mkO (1 + a) n) && decide (txtK (mkO (1 + a) n) = s)) else readO w n s (6 - (a + 1)).toNat := by
 have : a = 0 ∨ a = 1 ∨ a = 2 ∨ a = 3 ∨ a = 4 ∨ a = 5 := by omega
 rcases this with e | e | e | e | e | e <;> subst e <;> rfl
theorem ok_and {o : KO} {s : List Int} (hs : s ≠ []) : (okK o && decide ((if okK o = true then txtK o else []) = s)) = (okK o && decide (txtK o = s)) := by
 cases okK o with
 | true => simp
 | false => simp
theorem ok_and' {o : KO} {s : List Int} : (okK o && decide ((if okK o = true then txtK o else []) = s)) = (okK o && decide (txtK o = s)) := by
 cases okK o with
 | true => simp
 | false => simp
theorem e_read (x : List Int × Unit) (hp : x.1.length ≤ 1048576) (hl : LensL cRead.as x) : E_read x := by
 obtain ⟨s, u⟩ := x
 have hp : s.length ≤ 1048576 := hp
 have hcl := pcut_len s [32]
 have hwl : (wordsK.length : Int) = 6 := rfl
 unfold E_read
 delta qread_1 qread_5 qread_6 qread_7 qread_8 qread_2 qread_3 qread_4
 simp only [Bool.not_eq_true', Bool.not_eq_false', Bool.not_eq_true, Bool.not_eq_false, beq_self_eq_true, decide_eq_true_eq, decide_eq_false_iff_not, Bool.not_false, Bool.not_true, beq_iff_eq, beq_eq_false_iff_ne, bne_iff_ne, ne_eq, bne_eq_false_iff_eq, holds_iff, true_and, and_true, and_self, eq_self, List.length_cons, List.length_nil, List.length_append, List.length_set, List.length_replicate, List.set_cons_zero, cond_true, cond_false, Bool.false_eq_true, Bool.true_eq_false, forall_const, false_imp_iff, imp_self, implies_true, and_imp, Decidable.not_not, Bool.and_eq_true, Bool.or_eq_true, Bool.and_eq_false_iff, Bool.or_eq_false_iff, ← List.length_eq_zero_iff, or_self, or_false, false_or, Prod.forall, Int.reduceEq, Int.reduceLT, Int.reduceLE, List.nil_append, Nat.zero_add, Int.toNat_zero, List.drop_zero, List.length_drop, List.length_take, not_true_eq_false, not_false_eq_true,  RR_eq, wrap8]
 refine ⟨hp, by omega, rfl, fun a _ h0 h6 hr _ _ => ⟨fun h1 => ⟨by omega, fun h2 => ⟨by omega, ⟨by omega, by omega, ?_⟩, by omega⟩, fun e1 e2 => ?_⟩, fun h1 => ?_⟩⟩
 ·rw [hr]
  by_cases hE : atoiE (cutB s [32]) = true
  ·rw [if_pos hE, if_pos hE]
  ·rw [if_neg hE, if_neg hE, readO_step h0 (by omega), if_neg (h2.resolve_right hE)]
 ·rw [e2, if_neg (by decide), readO_step h0 (by omega), if_pos e1] at hr
  rw [hr]
  refine ⟨by omega, fun k1 => ⟨?_, ?_⟩, fun k1 => ⟨fun k3 => ⟨?_, ?_⟩, fun k3 => ⟨?_, ?_⟩⟩⟩
  ·simp [mkO, k1]
  ·rw [ok_and', mkO, if_pos k1, k1]
  ·simp [mkO, k3]
  ·rw [ok_and', mkO, if_neg k1, if_pos k3, k3]
  ·simp [mkO, k1, k3]
  ·rw [ok_and', mkO, if_neg k1, if_neg k3]
 ·have : a = 6 := by omega
  subst this
  rw [hr]
  by_cases hE : atoiE (cutB s [32]) = true
  ·rw [if_pos hE]
   exact ⟨rfl, rfl⟩
  ·rw [if_neg hE]
   exact ⟨rfl, rfl⟩

theorem parseO_nil (f : Nat) (k : Int) (o : List KO) : parseO (f + 1) [] k o = (o, 0, 0) := by
 rw [parseO, if_pos rfl]
theorem parseO_bad {f : Nat} {s : List Int} {k : Int} {o : List KO} (hs : s ≠ []) (h : cutC s [10] = false ∨ (readB (cutA s [10])).2 = false) : parseO (f + 1) s k o = ([], k, 1) := by
 rw [parseO, if_neg hs, if_pos h]
theorem parseO_good {f : Nat} {s : List Int} {k : Int} {o : List KO} (hs : s ≠ []) (h1 : cutC s [10] = true) (h2 : (readB (cutA s [10])).2 = true) :
  parseO (f + 1) s k o = parseO f (cutB s [10]) (k + 1) (o ++ [(readB (cutA s [10])).1]) := by
 rw [parseO, if_neg hs, if_neg (by rw [h1, h2]; simp)]
theorem cutB_less {s : List Int} (hs : ∀ b ∈ s, 0 ≤ b ∧ b ≤ 255) (h : cutC s [10] = true) : (cutB s [10]).length < s.length ∧ ∀ b ∈ cutB s [10], 0 ≤ b ∧ b ≤ 255 := by
 rcases split_at 10 s with hn | ⟨p, r, e, hn⟩
 ·rw [(cut_miss hs (by omega) hn).2.2] at h
  cases h
 ·have hp : ∀ b ∈ p, 0 ≤ b ∧ b ≤ 255 := fun b hb => hs b (by rw [e]; exact List.mem_append_left _ hb)
  have hr : ∀ b ∈ r, 0 ≤ b ∧ b ≤ 255 := fun b hb => hs b (by rw [e]; exact List.mem_append_right _ (List.mem_cons_of_mem _ hb))
  rw [e, (cut_hit hp hr (by omega) hn).2.1]
  refine ⟨?_, hr⟩
  rw [List.length_append, List.length_cons]
  omega
theorem parseO_fuel : ∀ (n f : Nat) (s : List Int) (k : Int) (o : List KO), s.length ≤ n → (∀ b ∈ s, 0 ≤ b ∧ b ≤ 255) → s.length < f → parseO f s k o = parseO (s.length + 1) s k o
 | n, 0, s, k, o, _, _, h => by omega
 | n, f + 1, s, k, o, hn, hs, h => by
  by_cases h0 : s = []
  ·rw [h0, parseO_nil, parseO_nil]
  ·by_cases h1 : cutC s [10] = false ∨ (readB (cutA s [10])).2 = false
   ·rw [parseO_bad h0 h1, parseO_bad h0 h1]
   ·have h2 : cutC s [10] = true := by
     cases e : cutC s [10] with
     | true => rfl
     | false => exact absurd (Or.inl e) h1
    have h3 : (readB (cutA s [10])).2 = true := by
     cases e : (readB (cutA s [10])).2 with
     | true => rfl
     | false => exact absurd (Or.inr e) h1
    have hc := cutB_less hs h2
    rw [parseO_good h0 h2 h3, parseO_good h0 h2 h3]
    cases n with
    | zero =>
     have : s = [] := List.length_eq_zero_iff.1 (by omega)
     exact absurd this h0
    | succ n =>
     rw [parseO_fuel n f _ _ _ (by omega) hc.2 (by omega), parseO_fuel n s.length _ _ _ (by omega) hc.2 (by omega)]
theorem e_parse (x : List Int × Unit) (hp : x.1.length ≤ 1048576) (hl : LensL cParse.as x) : E_parse x := by
 obtain ⟨s, u⟩ := x
 have hp : s.length ≤ 1048576 := hp
 unfold E_parse
 delta qparse_t1 qparse_2 qparse_3 qparse_4 qparse_1
 simp only [pair_eta]
 simp only [Bool.not_eq_true', Bool.not_eq_false', Bool.not_eq_true, Bool.not_eq_false, beq_self_eq_true, decide_eq_true_eq, decide_eq_false_iff_not, Bool.not_false, Bool.not_true, beq_iff_eq, beq_eq_false_iff_ne, bne_iff_ne, ne_eq, bne_eq_false_iff_eq, holds_iff, true_and, and_true, and_self, eq_self, List.length_cons, List.length_nil, List.length_append, List.length_set, List.length_replicate, List.set_cons_zero, cond_true, cond_false, Bool.false_eq_true, Bool.true_eq_false, forall_const, false_imp_iff, imp_self, implies_true, and_imp, Decidable.not_not, Bool.and_eq_true, Bool.or_eq_true, Bool.and_eq_false_iff, Bool.or_eq_false_iff, ← List.length_eq_zero_iff, or_self, or_false, false_or, Prod.forall, Int.reduceEq, Int.reduceLT, Int.reduceLE, List.nil_append, Nat.zero_add, Int.toNat_zero, List.drop_zero, List.length_drop, List.length_take, not_true_eq_false, not_false_eq_true,  RR_eq, pair_eta]
 refine ⟨⟨by omega, rfl, rfl⟩, fun r o k h0 h1 h2 h3 _ hr _ _ _ _ => ⟨fun hne => ?_, fun h => ?_⟩⟩
 ·have hne' : r ≠ [] := fun e => hne (by rw [e]; rfl)
  have hcl := pcut_len r [10]
  refine ⟨by omega, by omega, fun hb => ?_, fun h4 h5 => ?_⟩
  ·rw [h3, parseO_bad hne' hb]
   exact ⟨rfl, rfl, rfl⟩
  ·have hc := cutB_less hr h4
   refine ⟨by omega, by omega, ⟨by omega, by omega, by omega, ?_⟩, hc.1⟩
   rw [h3, parseO_good hne' h4 h5, parseO_fuel r.length r.length _ _ _ (by omega) hc.2 hc.1]
 ·have : r = [] := List.length_eq_zero_iff.1 h
  rw [h3, this, parseO_nil]
  exact ⟨rfl, rfl, rfl⟩
theorem drop_split {s : List Int} {a b : Int} (h0 : 0 ≤ a) (h1 : a ≤ b) (h2 : b < s.length) : s.drop a.toNat = (s.take b.toNat).drop a.toNat ++ s.getD b.toNat 0 :: s.drop (b + 1).toNat := by
 have e1 : s = s.take b.toNat ++ s.getD b.toNat 0 :: s.drop (b + 1).toNat := by
  have e2 : (b + 1).toNat = b.toNat + 1 := by omega
  have h3 : b.toNat < s.length := by omega
  rw [e2]
  have : s.getD b.toNat 0 = s[b.toNat] := by simp [h3]
  rw [this, ← List.drop_eq_getElem_cons h3, List.take_append_drop]
 have hl : (s.take b.toNat).length = b.toNat := by rw [List.length_take]; omega
 have := congrArg (List.drop a.toNat) e1
 rw [List.drop_append, hl, show a.toNat - b.toNat = 0 by omega, List.drop_zero] at this
 exact this
theorem take_drop' {s : List Int} {a b : Int} (h0 : 0 ≤ a) (h1 : a ≤ b) : (s.drop a.toNat).take (b - a).toNat = (s.take b.toNat).drop a.toNat := by
 rw [List.drop_take, show (b - a).toNat = b.toNat - a.toNat by omega]

theorem zp_bad {s : List KO} {k : Int} {o : KO} (h0 : 0 ≤ k) (h1 : k < s.length) (ho : s.getD k.toNat (0, 0, 0, 0) = o) (hn : okK o = false) : [] = (printB s).1 ∧ 2 = (printB s).2 := by
 have hm : o ∈ s := by
  have h2 : k.toNat < s.length := by omega
  have : s.getD k.toNat (0, 0, 0, 0) = s[k.toNat] := by simp [h2]
  rw [← ho, this]
  exact List.getElem_mem h2
 have : ¬ s.all okK = true := fun h => by
  have := List.all_eq_true.1 h o hm
  rw [hn] at this
  cases this
 unfold printB
 rw [if_neg this]
 exact ⟨rfl, rfl⟩
theorem txtK_len {o : KO} (h : okK o = true) : (txtK o ++ [10]).length ≤ 22 := by
 have h := of_decide_eq_true h
 have hw := word_len (k := o.1) (by omega) (by omega)
 have hd := dec_len (n := numK o) (by omega)
 unfold txtK
 simp only [List.length_append, List.length_singleton]
 omega
theorem flat_len : ∀ l : List KO, l.all okK = true → ((l.map fun o => txtK o ++ [10]).flatten).length ≤ 22 * l.length
 | [], _ => by simp
 | o :: l, h => by
  rw [List.all_cons, Bool.and_eq_true] at h
  have h1 := txtK_len h.1
  have h2 := flat_len l h.2
  rw [List.map_cons, List.flatten_cons, List.length_append, List.length_cons]
  omega
theorem zp_yes {s : List KO} {k : Int} {t : List Int} {o : KO} {m : Int} (w : List Int) (hp : s.length ≤ 1048576) (h0 : 0 ≤ k) (h1 : k < s.length) (ho : s.getD k.toNat (0, 0, 0, 0) = o)
  (hall : (s.take k.toNat).all okK = true) (ht : t = ((s.take k.toNat).map fun o => txtK o ++ [10]).flatten) (hk : 1 ≤ o.1 ∧ o.1 ≤ 6) (hm : numK o = m) (hm0 : ¬ m < 0) (hm1 : ¬ 1099511627776 < m) (hw : wordAt o.1 = w) :
  w.length + 1 ≤ 9223372036854775807 ∧ (0 ≤ m ∧ m ≤ 1099511627776) ∧ w.length + 1 + (dec m).length ≤ 9223372036854775807 ∧ w.length + 1 + (dec m).length + 1 ≤ 9223372036854775807 ∧
  t.length + (w.length + 1 + (dec m).length + 1) ≤ 9223372036854775807 ∧ (-9223372036854775808 ≤ k + 1 ∧ k + 1 ≤ 9223372036854775807) ∧
  (0 ≤ k + 1 ∧ k + 1 ≤ s.length ∧ (s.take (k + 1).toNat).all okK = true ∧ t ++ (w ++ [32] ++ dec m ++ [10]) = ((s.take (k + 1).toNat).map fun o => txtK o ++ [10]).flatten) ∧
  ((s.length : Int) - (k + 1)).toNat < ((s.length : Int) - k).toNat := by
 have hwl : w.length ≤ 7 := by rw [← hw]; exact word_len (by omega) (by omega)
 have hd := dec_len (n := m) (by omega)
 have hok : okK o = true := decide_eq_true ⟨hk.1, hk.2, by omega, by omega⟩
 have hfl := flat_len _ hall
 rw [← ht, List.length_take] at hfl
 have hs := takeI_succ (0, 0, 0, 0) h0 h1
 rw [ho] at hs
 refine ⟨by omega, by omega, by omega, by omega, by omega, by omega, ⟨by omega, by omega, ?_, ?_⟩, by omega⟩
 ·rw [hs, List.all_append, hall, List.all_cons, hok]
  rfl
 ·rw [hs, List.map_append, List.flatten_append, ← ht]
  have : txtK o = w ++ ([32] ++ dec m) := by rw [← hw, ← hm]; rfl
  rw [List.map_cons, this]
  simp

theorem zst_1 {s w : List Int} {k L : Nat} {κ : Int} (hκ : 7 - ((k : Int) + 1) = κ) (hw : wordAt κ = w) (hL : w.length + 1 = L) (h : s.length ≤ L ∨ ¬ s.take L = w ++ [32]) : zreadO s (k + 1) = zreadO s k := by
 rw [zreadO, hκ, hw, hL, if_pos h]
theorem zst_2 {s w : List Int} {k L : Nat} {κ : Int} (hκ : 7 - ((k : Int) + 1) = κ) (hw : wordAt κ = w) (hL : w.length + 1 = L) (h : ¬ s.length ≤ L) (h' : s.take L = w ++ [32])
  (h2 : pu41E (s.drop L) = true ∨ 1099511627776 < pu41V (s.drop L) ∨ ¬ dec (pu41V (s.drop L)) = s.drop L ∨ (κ = 1 ∧ 255 < pu41V (s.drop L))) : zreadO s (k + 1) = ((0, 0, 0, 0), false) := by
 rw [zreadO, hκ, hw, hL, if_neg (fun e => e.elim h (fun e => e h'))]
 simp only []
 rw [if_pos h2]
theorem zst_3 {s w : List Int} {k L : Nat} {κ : Int} (hκ : 7 - ((k : Int) + 1) = κ) (hw : wordAt κ = w) (hL : w.length + 1 = L) (h : ¬ s.length ≤ L) (h' : s.take L = w ++ [32])
  (h2 : pu41E (s.drop L) = false) (h3 : ¬ 1099511627776 < pu41V (s.drop L)) (h4 : dec (pu41V (s.drop L)) = s.drop L) (h5 : κ = 1 → ¬ 255 < pu41V (s.drop L)) : zreadO s (k + 1) = (mkO κ (pu41V (s.drop L)), true) := by
 rw [zreadO, hκ, hw, hL, if_neg (fun e => e.elim h (fun e => e h'))]
 simp only []
 rw [if_neg]
 rintro (e | e | e | e)
 ·rw [h2] at e
  cases e
 ·exact h3 e
 ·exact e h4
 ·exact h5 e.1 e.2
theorem zc {s w : List Int} {k L : Nat} {κ : Int} (LI : Int) (hLI : LI = L) (hp : s.length ≤ 1048576) (hκ : 7 - ((k : Int) + 1) = κ) (h1 : ¬ κ = 1) (hw : wordAt κ = w) (hL : w.length + 1 = L) (hz : zreadB s = zreadO s (k + 1)) (o : KO) (ho : o = mkO κ (pu41V (s.drop L))) :
  (¬ (s.length : Int) ≤ LI → ¬ (s.length : Int) ≤ LI ∧ LI ≤ s.length) ∧ ((s.length : Int) ≤ LI ∨ ¬ s.take L = w ++ [32] → zreadB s = zreadO s k ∧ k < k + 1) ∧
  (¬ (s.length : Int) ≤ LI → s.take L = w ++ [32] → (LI ≤ s.length ∧ (s.length : Int) ≤ s.length) ∧ s.length - L ≤ 1048576 ∧
   (pu41E (s.drop L) = false → (¬ 1099511627776 < pu41V (s.drop L) → pu41V (s.drop L) ≤ 1099511627776 ∧ (LI ≤ s.length ∧ (s.length : Int) ≤ s.length) ∧
    (dec (pu41V (s.drop L)) = s.drop L → (-9223372036854775808 ≤ pu41V (s.drop L) ∧ pu41V (s.drop L) ≤ 9223372036854775807) ∧ o = (zreadB s).1 ∧ true = (zreadB s).2) ∧
    (¬ dec (pu41V (s.drop L)) = s.drop L → (0, 0, 0, 0) = (zreadB s).1 ∧ false = (zreadB s).2)) ∧ (1099511627776 < pu41V (s.drop L) → (0, 0, 0, 0) = (zreadB s).1 ∧ false = (zreadB s).2)) ∧
   (pu41E (s.drop L) = true → (0, 0, 0, 0) = (zreadB s).1 ∧ false = (zreadB s).2)) := by
 subst hLI
 have hV := pu41V_nn (s.drop L)
 rw [hz]
 refine ⟨fun h => ⟨h, by omega⟩, fun h => ⟨zst_1 hκ hw hL (h.imp_left (by omega)), by omega⟩, fun g1 g2 => ⟨⟨by omega, by omega⟩, by omega, fun g3 => ⟨fun g4 => ⟨by omega, ⟨by omega, by omega⟩, fun g5 => ⟨by omega, ?_⟩, fun g5 => ?_⟩, fun g4 => ?_⟩, fun g3 => ?_⟩⟩
 ·rw [zst_3 hκ hw hL (by omega) g2 g3 g4 g5 (fun e => absurd e h1)]
  exact ⟨ho, rfl⟩
 ·rw [zst_2 hκ hw hL (by omega) g2 (Or.inr (Or.inr (Or.inl g5)))]
  exact ⟨rfl, rfl⟩
 ·rw [zst_2 hκ hw hL (by omega) g2 (Or.inr (Or.inl g4))]
  exact ⟨rfl, rfl⟩
 ·rw [zst_2 hκ hw hL (by omega) g2 (Or.inl g3)]
  exact ⟨rfl, rfl⟩
theorem zc1 {s w : List Int} {k L : Nat} (LI : Int) (hLI : LI = L) (hp : s.length ≤ 1048576) (hκ : 7 - ((k : Int) + 1) = 1) (hw : wordAt 1 = w) (hL : w.length + 1 = L) (hz : zreadB s = zreadO s (k + 1)) :
  (¬ (s.length : Int) ≤ LI → ¬ (s.length : Int) ≤ LI ∧ LI ≤ s.length) ∧ ((s.length : Int) ≤ LI ∨ ¬ s.take L = w ++ [32] → zreadB s = zreadO s k ∧ k < k + 1) ∧
  (¬ (s.length : Int) ≤ LI → s.take L = w ++ [32] → (LI ≤ s.length ∧ (s.length : Int) ≤ s.length) ∧ s.length - L ≤ 1048576 ∧
   (pu41E (s.drop L) = false → (¬ 1099511627776 < pu41V (s.drop L) → pu41V (s.drop L) ≤ 1099511627776 ∧ (LI ≤ s.length ∧ (s.length : Int) ≤ s.length) ∧
    (dec (pu41V (s.drop L)) = s.drop L → (255 < pu41V (s.drop L) → (0, 0, 0, 0) = (zreadB s).1 ∧ false = (zreadB s).2) ∧ (¬ 255 < pu41V (s.drop L) → (-9223372036854775808 ≤ pu41V (s.drop L) ∧ pu41V (s.drop L) ≤ 9223372036854775807) ∧ (0 ≤ pu41V (s.drop L) ∧ pu41V (s.drop L) ≤ 255) ∧ (1, 0, 0, pu41V (s.drop L)) = (zreadB s).1 ∧ true = (zreadB s).2)) ∧
    (¬ dec (pu41V (s.drop L)) = s.drop L → (0, 0, 0, 0) = (zreadB s).1 ∧ false = (zreadB s).2)) ∧ (1099511627776 < pu41V (s.drop L) → (0, 0, 0, 0) = (zreadB s).1 ∧ false = (zreadB s).2)) ∧
   (pu41E (s.drop L) = true → (0, 0, 0, 0) = (zreadB s).1 ∧ false = (zreadB s).2)) := by
 subst hLI
 have hV := pu41V_nn (s.drop L)
 rw [hz]
 refine ⟨fun h => ⟨h, by omega⟩, fun h => ⟨zst_1 hκ hw hL (h.imp_left (by omega)), by omega⟩, fun g1 g2 => ⟨⟨by omega, by omega⟩, by omega, fun g3 => ⟨fun g4 => ⟨by omega, ⟨by omega, by omega⟩, fun g5 => ⟨fun g6 => ?_, fun g6 => ⟨by omega, by omega, ?_⟩⟩, fun g5 => ?_⟩, fun g4 => ?_⟩, fun g3 => ?_⟩⟩
 ·rw [zst_2 hκ hw hL (by omega) g2 (Or.inr (Or.inr (Or.inr ⟨rfl, g6⟩)))]
  exact ⟨rfl, rfl⟩
 ·rw [zst_3 hκ hw hL (by omega) g2 g3 g4 g5 (fun _ => g6), mkO, if_pos rfl, Int.emod_eq_of_lt hV (by omega)]
  exact ⟨rfl, rfl⟩
 ·rw [zst_2 hκ hw hL (by omega) g2 (Or.inr (Or.inr (Or.inl g5)))]
  exact ⟨rfl, rfl⟩
 ·rw [zst_2 hκ hw hL (by omega) g2 (Or.inr (Or.inl g4))]
  exact ⟨rfl, rfl⟩
 ·rw [zst_2 hκ hw hL (by omega) g2 (Or.inl g3)]
  exact ⟨rfl, rfl⟩

end Go.Proofs.YtdhldloajddfiaaGreatDoor.Bench
