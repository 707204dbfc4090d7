/-
 The conditions, proved.
-/
import Derived.Test.YtlnlichdidobpaaGreatDoorTurnsE
namespace Go.Proofs.YtlnlichdidobpaaGreatDoor.Turns
open Go.Sx
set_option maxRecDepth 100000
set_option maxHeartbeats 1000000
set_option linter.unusedSimpArgs false
set_option linter.unusedVariables false

def pK (l : List (Int × Int)) : List (Int × Int × Int × Int) := l.map fun p => Bench.tP p.1 p.2
theorem zR {k n : Int} (h : Bench.No k n) : (∀ b ∈ Bench.eA k n, 0 ≤ b ∧ b ≤ 255) ∧ (10 : Int) ∉ Bench.eA k n := by
 obtain ⟨h1, h2, h3, h4, h5⟩ := h
 have hw := Bench.uP h1 h2
 have h10 : (10 : Int) ∉ Bench.fG k := by
  have : k = 1 ∨ k = 2 ∨ k = 3 ∨ k = 4 ∨ k = 5 ∨ k = 6 := by omega
  rcases this with e | e | e | e | e | e <;> subst e <;> decide
 refine ⟨fun b hb => ?_, fun hb => ?_⟩
 ·rcases List.mem_append.1 hb with hb | hb
  ·exact hw.1 b hb
  ·rcases List.mem_append.1 hb with hb | hb
   ·have := List.mem_singleton.1 hb
    omega
   ·exact Bench.Ba n b hb
 ·rcases List.mem_append.1 hb with hb | hb
  ·exact h10 hb
  ·rcases List.mem_append.1 hb with hb | hb
   ·have := List.mem_singleton.1 hb
    omega
   ·have := Bench.DM n 10 hb
    omega
theorem AR : ∀ (l : List (Int × Int)), (∀ p ∈ l, Bench.No p.1 p.2) → ∀ b ∈ gI l, 0 ≤ b ∧ b ≤ 255
 | [], _, b, hb => by cases hb
 | p :: l, h, b, hb => by
  have hb : b ∈ (Bench.eA p.1 p.2 ++ [10]) ++ gI l := hb
  rcases List.mem_append.1 hb with hb | hb
  ·rcases List.mem_append.1 hb with hb | hb
   ·exact (zR (h p (by simp))).1 b hb
   ·have := List.mem_singleton.1 hb
    omega
  ·exact AR l (fun q hq => h q (List.mem_cons_of_mem _ hq)) b hb
theorem sN : ∀ (l : List (Int × Int)) (f : Nat) (k : Int) (o : List (Int × Int × Int × Int)), l.length < f → (∀ p ∈ l, Bench.No p.1 p.2) → Bench.dS f (gI l) k o = (o ++ pK l, 0, 0)
 | [], f + 1, k, o, _, _ => by
  show Bench.dS (f + 1) [] k o = _
  rw [Bench.jZ]
  simp [pK]
 | p :: l, f + 1, k, o, hf, h => by
  have hp := h p (by simp)
  have hr := zR hp
  have ht := AR l (fun q hq => h q (List.mem_cons_of_mem _ hq))
  have e : gI (p :: l) = Bench.eA p.1 p.2 ++ 10 :: gI l := by
   show (Bench.eA p.1 p.2 ++ [10]) ++ gI l = _
   rw [List.append_assoc]
   rfl
  have hc := Bench.yq (c := 10) hr.1 ht (by omega) hr.2
  rw [← e] at hc
  have hne : gI (p :: l) ≠ [] := by rw [e]; simp
  have hrl := Bench.B1 hp
  rw [Bench.ik hne hc.2.2 (by rw [hc.1, hrl]), hc.1, hc.2.1, hrl, sN l f _ _ (by simp only [List.length_cons] at hf; omega) (fun q hq => h q (List.mem_cons_of_mem _ hq))]
  simp [pK]
theorem Aa : ∀ l : List (Int × Int), l.length ≤ (gI l).length
 | [] => Nat.zero_le _
 | p :: l => by
  have := Aa l
  have e : gI (p :: l) = (Bench.eA p.1 p.2 ++ [10]) ++ gI l := rfl
  rw [e, List.length_append, List.length_append, List.length_cons]
  simp only [List.length_cons, List.length_nil]
  omega
theorem CS (l : List (Int × Int)) (h : ∀ p ∈ l, Bench.No p.1 p.2) : Bench.bf (gI l) = (pK l, 0, 0) := by
 have := Aa l
 unfold Bench.bf
 rw [sN l _ 0 [] (by omega) h]
 rfl
theorem G3 {n : Int} (h0 : 0 ≤ n) (h1 : n < 10) : Bench.dec n = [48 + n] := by
 unfold Bench.dec Bench.wW
 rw [Go.Lib.decDigits_one (by omega), List.map_cons, List.map_nil, Bench.qG (by omega)]
 congr 1
 omega
theorem Vr {n : Int} (h0 : 10 ≤ n) (h1 : n < 100) : Bench.dec n = [48 + n / 10, 48 + n % 10] := by
 unfold Bench.dec Bench.wW
 rw [Go.Lib.decDigits_two (by omega) (by omega), List.map_cons, List.map_cons, List.map_nil, Bench.qG (by omega), Bench.qG (by omega)]
 have e1 : ((48 + n.toNat / 10 : Nat) : Int) = 48 + n / 10 := by omega
 have e2 : ((48 + n.toNat % 10 : Nat) : Int) = 48 + n % 10 := by omega
 rw [e1, e2]
def pS : List (Int × Int) := [(1, 97), (2, 1), (4, 0), (2, 0), (5, 0), (2, 0), (2, 0), (2, 0), (2, 1)]
def mB : List Int := [105, 110, 32, 57, 55, 10, 114, 117, 110, 32, 49, 10, 115, 97, 118, 101, 32, 48, 10, 114, 117, 110, 32, 48, 10, 114, 101, 115, 116, 111, 114, 101, 32, 48, 10, 114, 117, 110, 32, 48, 10, 114, 117, 110, 32, 48, 10, 114, 117, 110, 32, 48, 10, 114, 117, 110, 32, 49, 10]
theorem BF : gI pS = mB := by
 unfold gI pS Bench.eA
 simp only [List.map_cons, List.map_nil, Vr (n := 97) (by decide) (by decide), G3 (n := 0) (by decide) (by decide), G3 (n := 1) (by decide) (by decide)]
 rfl
theorem Jm : ∀ p ∈ pS, Bench.No p.1 p.2 := by
 intro p hp
 unfold pS at hp
 simp only [List.mem_cons, List.not_mem_nil, or_false] at hp
 rcases hp with e | e | e | e | e | e | e | e | e <;> subst e <;> exact ⟨by decide, by decide, by decide, by decide, by decide⟩
theorem AF : Bench.bf mB = (pK pS, 0, 0) := by rw [← BF, CS _ Jm]
theorem FE : Kern.iZ (pK pS) = (([], [], ([], [97]), 0, 1, -1, -1, 0, [0, 0]), [(0, []), (7, []), (0, []), (7, []), (0, []), (0, []), (0, []), (0, []), (0, [])]) := by kernel_rfl
theorem CE : (Tell.fu mB).2 = 0 ∧ (Tell.fu mB).1.length = 10 ∧ (Tell.fu mB).1.getD 1 [] = [101, 114, 114, 111, 114, 32, 55] ∧ (Tell.fu mB).1.getD 3 [] = [101, 114, 114, 111, 114, 32, 55] ∧
  (Tell.fu mB).1.getD 9 [] = [108, 101, 102, 116, 32, 48, 32, 48, 32, 48, 32, 49, 32, 48, 32, 49] := by
 have e : Tell.fu mB = ([[111, 107], [101, 114, 114, 111, 114, 32, 55], [111, 107], [101, 114, 114, 111, 114, 32, 55], [111, 107], [111, 107], [111, 107], [111, 107], [111, 107], [108, 101, 102, 116, 32, 48, 32, 48, 32, 48, 32, 49, 32, 48, 32, 49]], 0) := by
  unfold Tell.fu Tell.fh Tell.iv
  rw [AF, FE]
  simp only [ne_eq, not_true_eq_false, if_false]
  unfold Tell.dn Tell.iS Tell.nums Kern.Bt
  simp [Tell.po, pK, pS, Bench.tP, List.range, List.range.loop, G3 (n := 7) (by decide) (by decide), G3 (n := 0) (by decide) (by decide), G3 (n := 1) (by decide) (by decide)]
 rw [e]
 exact ⟨rfl, rfl, rfl, rfl, rfl⟩
theorem MN (x : Unit) (_ : True) (_ : aD iK.as x) : yY x := by
 have hl := CE.2.1
 unfold mB at hl
 unfold yY
 delta nu qi qJ
 refine ⟨⟨by decide⟩, fun h => h, fun h => h, fun h => h, fun _ => ⟨rfl, by decide, ?_⟩, fun h => h, fun h => h, fun h => h, fun _ => ⟨rfl, by decide, ?_⟩, fun h => h, fun h => h, fun h => h, fun _ => ⟨rfl, by decide, ?_⟩, fun h => h, fun h => h, fun h => h, rfl⟩
 all_goals (rw [hl]; decide)

end Go.Proofs.YtlnlichdidobpaaGreatDoor.Turns
