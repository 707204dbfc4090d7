/-
  SpreadPlans: the order that the reference takes.
-/
import Derived.Test.YtpmfgdedkmddlaaPlansPC
namespace Go.Proofs.Ytpmfgdedkmddlaa.Plans
open Go.Sx
set_option maxRecDepth 100000
set_option maxHeartbeats 1000000
set_option linter.unusedSimpArgs false
set_option linter.unusedVariables false

theorem next_best {R : Int → Int → Prop} {L out : List Int} {b : Int} (hL : L.Pairwise R) (hn : L.Nodup) (ho : out = L.take out.length) (hm : out.length < L.length) (hb : b ∈ L) (hbo : b ∉ out)
    (hbest : ∀ j ∈ L, j ∉ out → R b j) (anti : ∀ p q, R p q → R q p → p = q) : out ++ [b] = L.take (out ++ [b]).length := by
  have e : L.take (out ++ [b]).length = out ++ [L[out.length]] := by
    rw [List.length_append, List.length_singleton, List.take_add_one, List.getElem?_eq_getElem hm, ← ho]
    rfl
  have hd : L = out ++ (L[out.length] :: L.drop (out.length + 1)) := by
    conv => lhs; rw [← List.take_append_drop out.length L, ← ho, List.drop_eq_getElem_cons hm]
  generalize L[out.length] = c at e hd
  rw [e]
  have hc : c ∉ out := by
    rw [hd] at hn
    intro h
    exact (List.nodup_append.1 hn).2.2 c h c (by simp) rfl
  have h1 := hbest c (by rw [hd]; simp) hc
  have h2 : b = c := by
    have hb' := hb
    rw [hd] at hb' hL
    rcases List.mem_append.1 hb' with h | h
    · exact absurd h hbo
    · rcases List.mem_cons.1 h with h | h
      · exact h
      · have := (List.pairwise_cons.1 (List.pairwise_append.1 hL).2.1).1 b h
        exact anti _ _ h1 this
  rw [h2]
theorem order_mem {w : List Int} {g : Bool} {j : Int} : j ∈ order w g ↔ 0 ≤ j ∧ j < w.length := by
  cases g
  · exact ord_mem
  · exact (sortT_perm.mem_iff).trans ord_mem
theorem ord_nodup {n : Int} : (ord n).Nodup := ord_up.imp (fun h => Int.ne_of_lt h)
theorem order_nodup {w : List Int} {g : Bool} : (order w g).Nodup := by
  cases g
  · exact ord_nodup
  · exact (List.Perm.nodup_iff sortT_perm).2 ord_nodup
theorem order_next {w out : List Int} {g : Bool} {b k : Int} (ho : out = (order w g).take out.length) (hm : out.length < w.length) (h : bestOf w out g b k) (hk : k = w.length) :
    0 ≤ b ∧ b < w.length ∧ out ++ [b] = (order w g).take (out ++ [b]).length := by
  subst hk
  have hol := order_len (w := w) (b := g)
  rcases h with ⟨-, h⟩ | ⟨b0, bk, hbo, h⟩
  · exfalso
    have hs : (ord w.length).length ≤ out.length := by
      apply List.Nodup.length_le_of_subset ord_nodup
      intro z hz
      have := ord_mem.1 hz
      have t := h z.toNat (by omega)
      rwa [show ((z.toNat : Nat) : Int) = z by omega] at t
    rw [ord_len] at hs
    omega
  · refine ⟨b0, bk, ?_⟩
    cases g
    · refine next_best (R := fun p q => p ≤ q) (ord_up.imp Int.le_of_lt) ord_nodup ho (by omega) (order_mem.2 ⟨b0, bk⟩) hbo (fun j hj hjo => ?_) (fun p q h1 h2 => Int.le_antisymm h1 h2)
      have := ord_mem.1 hj
      have t := h j.toNat (by omega) (by rwa [show ((j.toNat : Nat) : Int) = j by omega])
      rw [show ((j.toNat : Nat) : Int) = j by omega] at t
      simpa using t
    · refine next_best (R := fun p q => leT w p q = true) sortT_pw (order_nodup (g := true)) ho (by omega) (order_mem.2 ⟨b0, bk⟩) hbo (fun j hj hjo => ?_) (fun p q h1 h2 => leT_anti h1 h2)
      have := order_mem.1 hj
      have t := h j.toNat (by omega) (by rwa [show ((j.toNat : Nat) : Int) = j by omega])
      rw [show ((j.toNat : Nat) : Int) = j by omega] at t
      simpa using t

end Go.Proofs.Ytpmfgdedkmddlaa.Plans
