/-
 The conditions, proved.
-/
import Derived.Test.YtlnlichdidobpaaGreatDoorBenchE
namespace Go.Proofs.YtlnlichdidobpaaGreatDoor.Bench
open Go.Sx
set_option maxRecDepth 100000
set_option maxHeartbeats 1000000
set_option linter.unusedSimpArgs false
set_option linter.unusedVariables false

theorem dT {α : Type} (d : α) {l : List α} {k : Int} (h0 : 0 ≤ k) (h1 : k < l.length) : l.take (k + 1).toNat = l.take k.toNat ++ [l.getD k.toNat d] := by
 have e : (k + 1).toNat = k.toNat + 1 := by omega
 have hlt : k.toNat < l.length := by omega
 rw [e, List.take_add_one, List.getElem?_eq_getElem hlt]
 simp [hlt]
theorem ff {α : Type} {l : List α} {k : Int} (h : (l.length : Int) ≤ k) : l.take k.toNat = l := List.take_of_length_le (by omega)
theorem L0 (x : Unit) (_ : True) (hl : aD jA.as x) : yC x := by
 unfold yC
 rfl
theorem UL (n : Int) : IntKind.u8.wrap n = n % 256 := by
 simp [IntKind.wrap, IntKind.bits, IntKind.signed]

theorem Sh (l : List UInt8) : gA (wW l) = l := by
 unfold gA wW
 rw [List.map_map]
 refine List.map_id'' (fun b => ?_) l
 simp
theorem uk {l : List Int} (h : ∀ b ∈ l, 0 ≤ b ∧ b ≤ 255) : wW (gA l) = l := by
 unfold gA wW
 rw [List.map_map]
 refine (List.map_congr_left (g := id) fun b hb => ?_).trans (List.map_id l)
 have := h b hb
 simp only [Function.comp, id]
 have e : (UInt8.ofNat b.toNat).toNat = b.toNat := by
  rw [UInt8.toNat_ofNat']
  exact Nat.mod_eq_of_lt (by omega)
 rw [e]
 omega
theorem pE (u : Nat) : ∀ b ∈ Go.Lib.decDigits u, 48 ≤ b.toNat ∧ b.toNat ≤ 57 := by
 induction u using Nat.strongRecOn with
 | _ u ih =>
  intro b hb
  have one : ∀ k : Nat, k < 10 → (UInt8.ofNat (48 + k)).toNat = 48 + k := fun k hk => by
   rw [UInt8.toNat_ofNat']
   exact Nat.mod_eq_of_lt (by omega)
  rw [Go.Lib.decDigits] at hb
  split at hb
  ·rename_i h
   rw [List.mem_singleton] at hb
   rw [hb, one u h]
   omega
  ·rename_i h
   rcases List.mem_append.1 hb with hb | hb
   ·exact ih (u / 10) (by omega) b hb
   ·rw [List.mem_singleton] at hb
    rw [hb, one (u % 10) (by omega)]
    omega
theorem pD {k u : Nat} (h : u < 10 ^ (k + 1)) : 1 ≤ (Go.Lib.decDigits u).length ∧ (Go.Lib.decDigits u).length ≤ k + 1 := by
 induction k generalizing u with
 | zero =>
  rw [Go.Lib.decDigits, dif_pos (by simpa using h)]
  simp
 | succ k ih =>
  rw [Go.Lib.decDigits]
  split
  ·simp
  ·rw [List.length_append, List.length_singleton]
   rw [Nat.pow_succ] at h
   have := ih (u := u / 10) (by omega)
   omega
theorem rr {n : Int} (h : n ≤ 1099511627776) : 1 ≤ (dec n).length ∧ (dec n).length ≤ 13 := by
 unfold dec wW
 rw [List.length_map]
 exact pD (k := 12) (by rw [show (10 : Nat) ^ (12 + 1) = 10000000000000 from by decide]; omega)
theorem DM (n : Int) : ∀ b ∈ dec n, 48 ≤ b ∧ b ≤ 57 := by
 intro b hb
 unfold dec wW at hb
 obtain ⟨c, hc, rfl⟩ := List.mem_map.1 hb
 have := pE _ c hc
 omega
theorem qG {k : Nat} (hk : k < 10) : (UInt8.ofNat (48 + k)).toNat = 48 + k := by
 rw [UInt8.toNat_ofNat']
 exact Nat.mod_eq_of_lt (by omega)
theorem GX (u : Nat) : ∀ r : List UInt8, u < 18446744073709551616 → Go.Lib.parseUint10 0 (Go.Lib.decDigits u ++ r) = Go.Lib.parseUint10 u r := by
 induction u using Nat.strongRecOn with
 | _ u ih =>
  intro r hu
  rw [Go.Lib.decDigits]
  split
  ·rename_i h
   rw [List.singleton_append, Go.Lib.parseUint10, qG h, if_pos (by omega), if_neg (by omega), if_neg (by omega)]
   congr 1
   omega
  ·rename_i h
   rw [List.append_assoc, ih (u / 10) (by omega) _ (by omega), List.singleton_append, Go.Lib.parseUint10, qG (by omega), if_pos (by omega), if_neg (by omega), if_neg (by omega)]
   congr 1
   omega
theorem Ij (s : List Int) : 0 ≤ fp s := by
 unfold fp
 split
 ·exact Int.natCast_nonneg _
 ·decide
 ·decide
theorem Bl {n : Int} (h0 : 0 ≤ n) (h1 : n ≤ 1099511627776) : Go.Lib.atoiAll (gA (dec n)) = .ok n := by
 have hne : Go.Lib.decDigits n.toNat ≠ [] := fun e => by
  have := (pD (k := 12) (u := n.toNat) (by rw [show (10 : Nat) ^ (12 + 1) = 10000000000000 from by decide]; omega)).1
  rw [e] at this
  simp at this
 unfold dec
 rw [Sh]
 have hd := pE n.toNat
 have hp := GX n.toNat [] (by omega)
 rw [List.append_nil] at hp
 generalize Go.Lib.decDigits n.toNat = l at hne hd hp
 cases l with
 | nil => exact absurd rfl hne
 | cons c r =>
  have hc := hd c (List.mem_cons_self ..)
  unfold Go.Lib.atoiAll
  simp only []
  rw [if_neg (by omega), Go.Lib.parseMag, if_neg hne, hp]
  simp only [Go.Lib.parseUint10]
  rw [if_neg (by omega), if_neg (by omega), if_neg (by omega)]
  congr 1
  omega
theorem FI {n : Int} (h0 : 0 ≤ n) (h1 : n ≤ 1099511627776) : fk (dec n) = n := by
 unfold fk
 rw [Bl h0 h1]
theorem Fe {n : Int} (h0 : 0 ≤ n) (h1 : n ≤ 1099511627776) : eK (dec n) = false := by
 unfold eK
 rw [Bl h0 h1]
theorem index_hit (c : UInt8) (r : List UInt8) : ∀ p : List UInt8, c ∉ p → Go.Lib.index (p ++ c :: r) [c] = p.length
 | [], _ => by simp [Go.Lib.index]
 | b :: p, h => by
  have hcb : ¬ c = b := fun e => h (e ▸ List.mem_cons_self ..)
  have ih := index_hit c r p (fun e => h (List.mem_cons_of_mem _ e))
  rw [List.cons_append, Go.Lib.index, ih]
  have : ((p.length : Int) == -1) = false := by rw [beq_eq_false_iff_ne]; omega
  simp [hcb, this]
theorem vq (c : UInt8) : ∀ p : List UInt8, c ∉ p → Go.Lib.index p [c] = -1
 | [], _ => by simp [Go.Lib.index]
 | b :: p, h => by
  have hcb : ¬ c = b := fun e => h (e ▸ List.mem_cons_self ..)
  have ih := vq c p (fun e => h (List.mem_cons_of_mem _ e))
  rw [Go.Lib.index, ih]
  simp [hcb]
theorem DH {p : List Int} {c : Int} (hp : ∀ b ∈ p, 0 ≤ b ∧ b ≤ 255) (hc : 0 ≤ c ∧ c ≤ 255) (h : c ∉ p) : UInt8.ofNat c.toNat ∉ gA p := by
 intro hm
 unfold gA at hm
 obtain ⟨b, hb, e⟩ := List.mem_map.1 hm
 have := hp b hb
 have e := congrArg UInt8.toNat e
 rw [UInt8.toNat_ofNat', UInt8.toNat_ofNat'] at e
 have : b = c := by omega
 exact h (this ▸ hb)
theorem yq {p r : List Int} {c : Int} (hp : ∀ b ∈ p, 0 ≤ b ∧ b ≤ 255) (hr : ∀ b ∈ r, 0 ≤ b ∧ b ≤ 255) (hc : 0 ≤ c ∧ c ≤ 255) (h : c ∉ p) :
  iA (p ++ c :: r) [c] = p ∧ kG (p ++ c :: r) [c] = r ∧ kJ (p ++ c :: r) [c] = true := by
 have e : gA (p ++ c :: r) = gA p ++ UInt8.ofNat c.toNat :: gA r := by unfold gA; simp
 have e1 : gA [c] = [UInt8.ofNat c.toNat] := rfl
 have hi := index_hit (UInt8.ofNat c.toNat) (gA r) (gA p) (DH hp hc h)
 have hcut : Go.Lib.cut (gA (p ++ c :: r)) (gA [c]) = (gA p, gA r, true) := by
  rw [e, e1, Go.Lib.cut, hi, if_pos (by omega)]
  simp
 unfold iA kG kJ
 rw [hcut]
 exact ⟨uk hp, uk hr, rfl⟩
theorem JL {p : List Int} {c : Int} (hp : ∀ b ∈ p, 0 ≤ b ∧ b ≤ 255) (hc : 0 ≤ c ∧ c ≤ 255) (h : c ∉ p) :
  iA p [c] = p ∧ kG p [c] = [] ∧ kJ p [c] = false := by
 have e1 : gA [c] = [UInt8.ofNat c.toNat] := rfl
 have hi := vq (UInt8.ofNat c.toNat) (gA p) (DH hp hc h)
 have hcut : Go.Lib.cut (gA p) (gA [c]) = (gA p, [], false) := by
  rw [e1, Go.Lib.cut, hi, if_neg (by omega)]
 unfold iA kG kJ
 rw [hcut]
 exact ⟨uk hp, rfl, rfl⟩
theorem Ad (s t : List Int) : (iA s t).length ≤ s.length ∧ (kG s t).length ≤ s.length := by
 have hl : (gA s).length = s.length := by unfold gA; simp
 unfold iA kG wW
 rw [List.length_map, List.length_map, ← hl]
 unfold Go.Lib.cut
 split
 ·simp only [List.length_take, List.length_drop]
  omega
 ·simp
theorem An (c : Int) : ∀ s : List Int, c ∉ s ∨ ∃ p r, s = p ++ c :: r ∧ c ∉ p
 | [] => Or.inl (by simp)
 | b :: s => by
  by_cases h : b = c
  ·exact Or.inr ⟨[], s, by simp [h], by simp⟩
  ·rcases An c s with h1 | ⟨p, r, e, h1⟩
   ·exact Or.inl (by simp [h1, Ne.symm h])
   ·exact Or.inr ⟨b :: p, r, by simp [e], by simp [h1, Ne.symm h]⟩

def No (k n : Int) : Prop := 1 ≤ k ∧ k ≤ 6 ∧ 0 ≤ n ∧ n ≤ 1099511627776 ∧ (k = 1 → n ≤ 255)
def eA (k n : Int) : List Int := fG k ++ ([32] ++ dec n)
theorem AK {k n : Int} (h : No k n) : qd (tP k n) = n := by
 obtain ⟨h1, h2, h3, h4, h5⟩ := h
 unfold tP qd
 by_cases e : k = 1
 ·simp only [e, if_true]
  have := h5 e
  omega
 ·by_cases e3 : k = 3
  ·simp [e3]
  ·simp [e, e3]
theorem Qa (k n : Int) : (tP k n).1 = k := by
 unfold tP
 by_cases e : k = 1
 ·simp [e]
 ·by_cases e3 : k = 3
  ·simp [e3]
  ·simp [e, e3]
theorem Nl {k n : Int} (h : No k n) : iE (tP k n) = true := by
 unfold iE
 rw [Qa, AK h]
 obtain ⟨h1, h2, h3, h4, h5⟩ := h
 exact decide_eq_true ⟨h1, h2, h3, h4⟩
theorem Le {k n : Int} (h : No k n) : mr (tP k n) = eA k n := by
 unfold mr eA fG
 rw [Qa, AK h]
theorem uP {k : Int} (h1 : 1 ≤ k) (h2 : k ≤ 6) : (∀ b ∈ fG k, 0 ≤ b ∧ b ≤ 255) ∧ (32 : Int) ∉ fG k := by
 have : k = 1 ∨ k = 2 ∨ k = 3 ∨ k = 4 ∨ k = 5 ∨ k = 6 := by omega
 rcases this with e | e | e | e | e | e <;> subst e <;> exact ⟨by decide, by decide⟩
theorem Ba (n : Int) : ∀ b ∈ dec n, 0 ≤ b ∧ b ≤ 255 := fun b hb => by have := DM n b hb; omega
theorem B1 {k n : Int} (h : No k n) : cW (eA k n) = (tP k n, true) := by
 have h' := h
 obtain ⟨h1, h2, h3, h4, h5⟩ := h'
 have hw := uP h1 h2
 have hc := yq (c := 32) hw.1 (Ba n) (by omega) hw.2
 have ha : iA (eA k n) [32] = fG k := hc.1
 have hb : kG (eA k n) [32] = dec n := hc.2.1
 unfold cW
 rw [ha, hb, Fe h3 h4, FI h3 h4, if_neg (by decide)]
 have hok := Nl h
 have htx := Le h
 have : k = 1 ∨ k = 2 ∨ k = 3 ∨ k = 4 ∨ k = 5 ∨ k = 6 := by omega
 rcases this with e | e | e | e | e | e <;> subst e <;> simp [qO, fG, bZ, hok, htx]
theorem qI {k : Int} (h1 : ¬ k < 1) (h2 : ¬ 6 < k) : (bZ.getD (k - 1).toNat []).length ≤ 7 := by
 have : k = 1 ∨ k = 2 ∨ k = 3 ∨ k = 4 ∨ k = 5 ∨ k = 6 := by omega
 rcases this with e | e | e | e | e | e <;> subst e <;> decide
theorem Nd {k c n b : Int} (h : k < 1 ∨ 6 < k) : iE (k, c, n, b) = false := by
 unfold iE
 exact decide_eq_false fun h' => by
  have h1 : 1 ≤ k := h'.1
  have h2 : k ≤ 6 := h'.2.1
  omega
theorem Ch {k c n b m : Int} (e : qd (k, c, n, b) = m) (h : m < 0 ∨ 1099511627776 < m) : iE (k, c, n, b) = false := by
 unfold iE
 rw [e]
 exact decide_eq_false fun h' => by
  have h1 := h'.2.2
  omega
theorem Eg {k c n b m : Int} (e : qd (k, c, n, b) = m) (h1 : ¬ k < 1) (h2 : ¬ 6 < k) (h3 : ¬ m < 0) (h4 : ¬ 1099511627776 < m) : iE (k, c, n, b) = true := by
 unfold iE
 rw [e]
 refine decide_eq_true ⟨?_, ?_, ?_, ?_⟩
 ·show 1 ≤ k
  omega
 ·show k ≤ 6
  omega
 ·omega
 ·omega
theorem uq {k c n b m : Int} (e : qd (k, c, n, b) = m) (h1 : ¬ k < 1) (h2 : ¬ 6 < k) (h3 : ¬ m < 0) (h4 : ¬ 1099511627776 < m) :
  (-9223372036854775808 ≤ k - 1 ∧ k - 1 ≤ 9223372036854775807) ∧ (0 ≤ k - 1 ∧ k - 1 < (bZ.length : Int)) ∧ (bZ.getD (k - 1).toNat []).length + 1 ≤ 9223372036854775807 ∧
  (0 ≤ m ∧ m ≤ 1099511627776) ∧ (bZ.getD (k - 1).toNat []).length + 1 + (dec m).length ≤ 9223372036854775807 ∧
  (bZ.getD (k - 1).toNat [] ++ [32] ++ dec m = if iE (k, c, n, b) = true then mr (k, c, n, b) else []) ∧ iE (k, c, n, b) = true := by
 have hw := qI h1 h2
 have hd := rr (n := m) (by omega)
 have hk : (bZ.length : Int) = 6 := rfl
 refine ⟨by omega, by omega, by omega, by omega, by omega, ?_, Eg e h1 h2 h3 h4⟩
 rw [if_pos (Eg e h1 h2 h3 h4), mr, e, List.append_assoc]
theorem SA (x : KO × Unit) (_ : True) (hl : aD og.as x) : Di x := by
 obtain ⟨⟨k, c, n, b⟩, u⟩ := x
 have hb : 0 ≤ b ∧ b ≤ 255 := hl.1.2.2.2
 change Int at k c n b
 unfold Di
 delta tN qQ tI tM tJ yG
 simp only [Bool.not_eq_true', Bool.not_eq_false', Bool.not_eq_true, Bool.not_eq_false, beq_self_eq_true, decide_eq_true_eq, decide_eq_false_iff_not, Bool.not_false, Bool.not_true, beq_iff_eq, beq_eq_false_iff_ne, bne_iff_ne, ne_eq, bne_eq_false_iff_eq, aE, true_and, and_true, and_self, eq_self, List.length_cons, List.length_nil, List.length_append, List.length_set, List.length_replicate, List.set_cons_zero, cond_true, cond_false, Bool.false_eq_true, Bool.true_eq_false, forall_const, false_imp_iff, imp_self, implies_true, and_imp, Decidable.not_not, Bool.and_eq_true, Bool.or_eq_true, Bool.and_eq_false_iff, Bool.or_eq_false_iff, ← List.length_eq_zero_iff, or_self, or_false, false_or, Prod.forall, Int.reduceEq, Int.reduceLT, Int.reduceLE, List.nil_append, Nat.zero_add, Int.toNat_zero, List.drop_zero, List.length_drop, List.length_take, not_true_eq_false, not_false_eq_true]
 try simp only [eP, eH, decide_eq_true_eq, decide_eq_false_iff_not]
 refine ⟨fun h => by rw [Nd h]; exact ⟨rfl, rfl⟩, fun h1 h2 => ⟨fun e3 => ⟨fun e1 => by omega, fun e1 => ⟨fun h => ?_, fun h3 h4 => ?_⟩⟩, fun e3 => ⟨fun e1 => ⟨by omega, fun h => ?_, fun h3 h4 => ?_⟩, fun e1 => ⟨fun h => ?_, fun h3 h4 => ?_⟩⟩⟩⟩
 ·rw [Ch (m := n) (by simp [qd, e3]) h]
  exact ⟨rfl, rfl⟩
 ·exact uq (m := n) (by simp [qd, e3]) h1 h2 h3 h4
 ·rw [Ch (m := b) (by simp [qd, e1]) h]
  exact ⟨rfl, rfl⟩
 ·exact uq (m := b) (by simp [qd, e1]) h1 h2 h3 h4
 ·rw [Ch (m := c) (by simp [qd, e1, e3]) h]
  exact ⟨rfl, rfl⟩
 ·exact uq (m := c) (by simp [qd, e1, e3]) h1 h2 h3 h4
theorem vt {w : List Int} {n : Int} {s : List Int} {a : Int} (h0 : 0 ≤ a) (h1 : a < 6) : qO w n s (6 - a).toNat = if bZ.getD a.toNat [] = w then (tP (1 + a) n, iE (tP (1 + a) n) && decide (mr (tP (1 + a) n) = s)) else qO w n s (6 - (a + 1)).toNat := by
 have : a = 0 ∨ a = 1 ∨ a = 2 ∨ a = 3 ∨ a = 4 ∨ a = 5 := by omega
 rcases this with e | e | e | e | e | e <;> subst e <;> rfl
theorem yZ {o : KO} {s : List Int} : (iE o && decide ((if iE o = true then mr o else []) = s)) = (iE o && decide (mr o = s)) := by
 cases iE o with
 | true => simp
 | false => simp
theorem C3 (x : List Int × Unit) (hp : x.1.length ≤ 1048576) (hl : aD dV.as x) : pH x := by
 obtain ⟨s, u⟩ := x
 have hp : s.length ≤ 1048576 := hp
 have hcl := Ad s [32]
 have hwl : (bZ.length : Int) = 6 := rfl
 unfold pH
 delta aM dM eT dQ ky dq cN cO
 simp only [Bool.not_eq_true', Bool.not_eq_false', Bool.not_eq_true, Bool.not_eq_false, beq_self_eq_true, decide_eq_true_eq, decide_eq_false_iff_not, Bool.not_false, Bool.not_true, beq_iff_eq, beq_eq_false_iff_ne, bne_iff_ne, ne_eq, bne_eq_false_iff_eq, aE, true_and, and_true, and_self, eq_self, List.length_cons, List.length_nil, List.length_append, List.length_set, List.length_replicate, List.set_cons_zero, cond_true, cond_false, Bool.false_eq_true, Bool.true_eq_false, forall_const, false_imp_iff, imp_self, implies_true, and_imp, Decidable.not_not, Bool.and_eq_true, Bool.or_eq_true, Bool.and_eq_false_iff, Bool.or_eq_false_iff, ← List.length_eq_zero_iff, or_self, or_false, false_or, Prod.forall, Int.reduceEq, Int.reduceLT, Int.reduceLE, List.nil_append, Nat.zero_add, Int.toNat_zero, List.drop_zero, List.length_drop, List.length_take, not_true_eq_false, not_false_eq_true,  vC, UL]
 refine ⟨hp, by omega, rfl, fun a _ h0 h6 hr _ _ => ⟨fun h1 => ⟨by omega, fun h2 => ⟨by omega, ⟨by omega, by omega, ?_⟩, by omega⟩, fun e1 e2 => ?_⟩, fun h1 => ?_⟩⟩
 ·rw [hr]
  by_cases hE : eK (kG s [32]) = true
  ·rw [if_pos hE, if_pos hE]
  ·rw [if_neg hE, if_neg hE, vt h0 (by omega), if_neg (h2.resolve_right hE)]
 ·rw [e2, if_neg (by decide), vt h0 (by omega), if_pos e1] at hr
  rw [hr]
  refine ⟨by omega, fun k1 => ⟨?_, ?_⟩, fun k1 => ⟨fun k3 => ⟨?_, ?_⟩, fun k3 => ⟨?_, ?_⟩⟩⟩
  ·simp [tP, k1]
  ·rw [yZ, tP, if_pos k1, k1]
  ·simp [tP, k3]
  ·rw [yZ, tP, if_neg k1, if_pos k3, k3]
  ·simp [tP, k1, k3]
  ·rw [yZ, tP, if_neg k1, if_neg k3]
 ·have : a = 6 := by omega
  subst this
  rw [hr]
  by_cases hE : eK (kG s [32]) = true
  ·rw [if_pos hE]
   exact ⟨rfl, rfl⟩
  ·rw [if_neg hE]
   exact ⟨rfl, rfl⟩

theorem jZ (f : Nat) (k : Int) (o : List KO) : dS (f + 1) [] k o = (o, 0, 0) := by
 rw [dS, if_pos rfl]
theorem mE {f : Nat} {s : List Int} {k : Int} {o : List KO} (hs : s ≠ []) (h : kJ s [10] = false ∨ (cW (iA s [10])).2 = false) : dS (f + 1) s k o = ([], k, 1) := by
 rw [dS, if_neg hs, if_pos h]
theorem ik {f : Nat} {s : List Int} {k : Int} {o : List KO} (hs : s ≠ []) (h1 : kJ s [10] = true) (h2 : (cW (iA s [10])).2 = true) :
  dS (f + 1) s k o = dS f (kG s [10]) (k + 1) (o ++ [(cW (iA s [10])).1]) := by
 rw [dS, if_neg hs, if_neg (by rw [h1, h2]; simp)]
theorem rz {s : List Int} (hs : ∀ b ∈ s, 0 ≤ b ∧ b ≤ 255) (h : kJ s [10] = true) : (kG s [10]).length < s.length ∧ ∀ b ∈ kG s [10], 0 ≤ b ∧ b ≤ 255 := by
 rcases An 10 s with hn | ⟨p, r, e, hn⟩
 ·rw [(JL hs (by omega) hn).2.2] at h
  cases h
 ·have hp : ∀ b ∈ p, 0 ≤ b ∧ b ≤ 255 := fun b hb => hs b (by rw [e]; exact List.mem_append_left _ hb)
  have hr : ∀ b ∈ r, 0 ≤ b ∧ b ≤ 255 := fun b hb => hs b (by rw [e]; exact List.mem_append_right _ (List.mem_cons_of_mem _ hb))
  rw [e, (yq hp hr (by omega) hn).2.1]
  refine ⟨?_, hr⟩
  rw [List.length_append, List.length_cons]
  omega
theorem oj : ∀ (n f : Nat) (s : List Int) (k : Int) (o : List KO), s.length ≤ n → (∀ b ∈ s, 0 ≤ b ∧ b ≤ 255) → s.length < f → dS f s k o = dS (s.length + 1) s k o
 | n, 0, s, k, o, _, _, h => by omega
 | n, f + 1, s, k, o, hn, hs, h => by
  by_cases h0 : s = []
  ·rw [h0, jZ, jZ]
  ·by_cases h1 : kJ s [10] = false ∨ (cW (iA s [10])).2 = false
   ·rw [mE h0 h1, mE h0 h1]
   ·have h2 : kJ s [10] = true := by
     cases e : kJ s [10] with
     | true => rfl
     | false => exact absurd (Or.inl e) h1
    have h3 : (cW (iA s [10])).2 = true := by
     cases e : (cW (iA s [10])).2 with
     | true => rfl
     | false => exact absurd (Or.inr e) h1
    have hc := rz hs h2
    rw [ik h0 h2 h3, ik h0 h2 h3]
    cases n with
    | zero =>
     have : s = [] := List.length_eq_zero_iff.1 (by omega)
     exact absurd this h0
    | succ n =>
     rw [oj n f _ _ _ (by omega) hc.2 (by omega), oj n s.length _ _ _ (by omega) hc.2 (by omega)]
theorem M8 (x : List Int × Unit) (hp : x.1.length ≤ 1048576) (hl : aD iJ.as x) : yN x := by
 obtain ⟨s, u⟩ := x
 have hp : s.length ≤ 1048576 := hp
 unfold yN
 delta kR iq j9 lH ir
 simp only [bM]
 simp only [Bool.not_eq_true', Bool.not_eq_false', Bool.not_eq_true, Bool.not_eq_false, beq_self_eq_true, decide_eq_true_eq, decide_eq_false_iff_not, Bool.not_false, Bool.not_true, beq_iff_eq, beq_eq_false_iff_ne, bne_iff_ne, ne_eq, bne_eq_false_iff_eq, aE, true_and, and_true, and_self, eq_self, List.length_cons, List.length_nil, List.length_append, List.length_set, List.length_replicate, List.set_cons_zero, cond_true, cond_false, Bool.false_eq_true, Bool.true_eq_false, forall_const, false_imp_iff, imp_self, implies_true, and_imp, Decidable.not_not, Bool.and_eq_true, Bool.or_eq_true, Bool.and_eq_false_iff, Bool.or_eq_false_iff, ← List.length_eq_zero_iff, or_self, or_false, false_or, Prod.forall, Int.reduceEq, Int.reduceLT, Int.reduceLE, List.nil_append, Nat.zero_add, Int.toNat_zero, List.drop_zero, List.length_drop, List.length_take, not_true_eq_false, not_false_eq_true,  vC, bM]
 refine ⟨⟨by omega, rfl, rfl⟩, fun r o k h0 h1 h2 h3 _ hr _ _ _ _ => ⟨fun hne => ?_, fun h => ?_⟩⟩
 ·have hne' : r ≠ [] := fun e => hne (by rw [e]; rfl)
  have hcl := Ad r [10]
  refine ⟨by omega, by omega, fun hb => ?_, fun h4 h5 => ?_⟩
  ·rw [h3, mE hne' hb]
   exact ⟨rfl, rfl, rfl⟩
  ·have hc := rz hr h4
   refine ⟨by omega, by omega, ⟨by omega, by omega, by omega, ?_⟩, hc.1⟩
   rw [h3, ik hne' h4 h5, oj r.length r.length _ _ _ (by omega) hc.2 hc.1]
 ·have : r = [] := List.length_eq_zero_iff.1 h
  rw [h3, this, jZ]
  exact ⟨rfl, rfl, rfl⟩
theorem Jf {o : KO} (h : iE o = true) : (mr o ++ [10]).length ≤ 22 := by
 have h := of_decide_eq_true h
 have hw := qI (k := o.1) (by omega) (by omega)
 have hd := rr (n := qd o) (by omega)
 unfold mr
 simp only [List.length_append, List.length_singleton]
 omega
theorem uc : ∀ l : List KO, l.all iE = true → ((l.map fun o => mr o ++ [10]).flatten).length ≤ 22 * l.length
 | [], _ => by simp
 | o :: l, h => by
  rw [List.all_cons, Bool.and_eq_true] at h
  have h1 := Jf h.1
  have h2 := uc l h.2
  rw [List.map_cons, List.flatten_cons, List.length_append, List.length_cons]
  omega
theorem Us {s w : List Int} {k L : Nat} {κ : Int} (hκ : 7 - ((k : Int) + 1) = κ) (hw : fG κ = w) (hL : w.length + 1 = L) (h : s.length ≤ L ∨ ¬ s.take L = w ++ [32]) : jJ s (k + 1) = jJ s k := by
 rw [jJ, hκ, hw, hL, if_pos h]
theorem Ho {s w : List Int} {k L : Nat} {κ : Int} (hκ : 7 - ((k : Int) + 1) = κ) (hw : fG κ = w) (hL : w.length + 1 = L) (h : ¬ s.length ≤ L) (h' : s.take L = w ++ [32])
  (h2 : Bj (s.drop L) = true ∨ 1099511627776 < fp (s.drop L) ∨ ¬ dec (fp (s.drop L)) = s.drop L ∨ (κ = 1 ∧ 255 < fp (s.drop L))) : jJ s (k + 1) = ((0, 0, 0, 0), false) := by
 rw [jJ, hκ, hw, hL, if_neg (fun e => e.elim h (fun e => e h'))]
 simp only []
 rw [if_pos h2]
theorem Uv {s w : List Int} {k L : Nat} {κ : Int} (hκ : 7 - ((k : Int) + 1) = κ) (hw : fG κ = w) (hL : w.length + 1 = L) (h : ¬ s.length ≤ L) (h' : s.take L = w ++ [32])
  (h2 : Bj (s.drop L) = false) (h3 : ¬ 1099511627776 < fp (s.drop L)) (h4 : dec (fp (s.drop L)) = s.drop L) (h5 : κ = 1 → ¬ 255 < fp (s.drop L)) : jJ s (k + 1) = (tP κ (fp (s.drop L)), true) := by
 rw [jJ, hκ, hw, hL, if_neg (fun e => e.elim h (fun e => e h'))]
 simp only []
 rw [if_neg]
 rintro (e | e | e | e)
 ·rw [h2] at e
  cases e
 ·exact h3 e
 ·exact e h4
 ·exact h5 e.1 e.2
theorem zc {s w : List Int} {k L : Nat} {κ : Int} (LI : Int) (hLI : LI = L) (hp : s.length ≤ 1048576) (hκ : 7 - ((k : Int) + 1) = κ) (h1 : ¬ κ = 1) (hw : fG κ = w) (hL : w.length + 1 = L) (hz : kF s = jJ s (k + 1)) (o : KO) (ho : o = tP κ (fp (s.drop L))) :
  (¬ (s.length : Int) ≤ LI → ¬ (s.length : Int) ≤ LI ∧ LI ≤ s.length) ∧ ((s.length : Int) ≤ LI ∨ ¬ s.take L = w ++ [32] → kF s = jJ s k ∧ k < k + 1) ∧
  (¬ (s.length : Int) ≤ LI → s.take L = w ++ [32] → (LI ≤ s.length ∧ (s.length : Int) ≤ s.length) ∧ s.length - L ≤ 1048576 ∧
   (Bj (s.drop L) = false → (¬ 1099511627776 < fp (s.drop L) → fp (s.drop L) ≤ 1099511627776 ∧ (LI ≤ s.length ∧ (s.length : Int) ≤ s.length) ∧
    (dec (fp (s.drop L)) = s.drop L → (-9223372036854775808 ≤ fp (s.drop L) ∧ fp (s.drop L) ≤ 9223372036854775807) ∧ o = (kF s).1 ∧ true = (kF s).2) ∧
    (¬ dec (fp (s.drop L)) = s.drop L → (0, 0, 0, 0) = (kF s).1 ∧ false = (kF s).2)) ∧ (1099511627776 < fp (s.drop L) → (0, 0, 0, 0) = (kF s).1 ∧ false = (kF s).2)) ∧
   (Bj (s.drop L) = true → (0, 0, 0, 0) = (kF s).1 ∧ false = (kF s).2)) := by
 subst hLI
 have hV := Ij (s.drop L)
 rw [hz]
 refine ⟨fun h => ⟨h, by omega⟩, fun h => ⟨Us hκ hw hL (h.imp_left (by omega)), by omega⟩, fun g1 g2 => ⟨⟨by omega, by omega⟩, by omega, fun g3 => ⟨fun g4 => ⟨by omega, ⟨by omega, by omega⟩, fun g5 => ⟨by omega, ?_⟩, fun g5 => ?_⟩, fun g4 => ?_⟩, fun g3 => ?_⟩⟩
 ·rw [Uv hκ hw hL (by omega) g2 g3 g4 g5 (fun e => absurd e h1)]
  exact ⟨ho, rfl⟩
 ·rw [Ho hκ hw hL (by omega) g2 (Or.inr (Or.inr (Or.inl g5)))]
  exact ⟨rfl, rfl⟩
 ·rw [Ho hκ hw hL (by omega) g2 (Or.inr (Or.inl g4))]
  exact ⟨rfl, rfl⟩
 ·rw [Ho hκ hw hL (by omega) g2 (Or.inl g3)]
  exact ⟨rfl, rfl⟩
end Go.Proofs.YtlnlichdidobpaaGreatDoor.Bench
