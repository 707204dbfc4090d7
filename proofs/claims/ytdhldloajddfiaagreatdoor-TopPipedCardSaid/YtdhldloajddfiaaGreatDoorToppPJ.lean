/-
 The conditions, proved.
-/
import Derived.Test.YtdhldloajddfiaaGreatDoorToppE
namespace Go.Proofs.YtdhldloajddfiaaGreatDoor.Topp
open Go.Sx
set_option maxRecDepth 100000
set_option maxHeartbeats 1000000
set_option linter.unusedSimpArgs false
set_option linter.unusedVariables false

def opsOf' (l : List (Int × Int)) : List (Int × Int × Int × Int) := l.map fun p => Bench.mkO p.1 p.2
theorem line_rng {k n : Int} (h : Bench.okN k n) : (∀ b ∈ Bench.lineOf k n, 0 ≤ b ∧ b ≤ 255) ∧ (10 : Int) ∉ Bench.lineOf k n := by
 obtain ⟨h1, h2, h3, h4, h5⟩ := h
 have hw := Bench.wordAt_rng h1 h2
 have h10 : (10 : Int) ∉ Bench.wordAt k := by
  have : k = 1 ∨ k = 2 ∨ k = 3 ∨ k = 4 ∨ k = 5 ∨ k = 6 := by omega
  rcases this with e | e | e | e | e | e <;> subst e <;> decide
 refine ⟨fun b hb => ?_, fun hb => ?_⟩
 ·rcases List.mem_append.1 hb with hb | hb
  ·exact hw.1 b hb
  ·rcases List.mem_append.1 hb with hb | hb
   ·have := List.mem_singleton.1 hb
    omega
   ·exact Bench.dec_rng8 n b hb
 ·rcases List.mem_append.1 hb with hb | hb
  ·exact h10 hb
  ·rcases List.mem_append.1 hb with hb | hb
   ·have := List.mem_singleton.1 hb
    omega
   ·have := Bench.dec_rng n 10 hb
    omega
theorem text_rng : ∀ (l : List (Int × Int)), (∀ p ∈ l, Bench.okN p.1 p.2) → ∀ b ∈ textOf l, 0 ≤ b ∧ b ≤ 255
 | [], _, b, hb => by cases hb
 | p :: l, h, b, hb => by
  have hb : b ∈ (Bench.lineOf p.1 p.2 ++ [10]) ++ textOf l := hb
  rcases List.mem_append.1 hb with hb | hb
  ·rcases List.mem_append.1 hb with hb | hb
   ·exact (line_rng (h p (by simp))).1 b hb
   ·have := List.mem_singleton.1 hb
    omega
  ·exact text_rng l (fun q hq => h q (List.mem_cons_of_mem _ hq)) b hb
theorem parseO_text : ∀ (l : List (Int × Int)) (f : Nat) (k : Int) (o : List (Int × Int × Int × Int)), l.length < f → (∀ p ∈ l, Bench.okN p.1 p.2) → Bench.parseO f (textOf l) k o = (o ++ opsOf' l, 0, 0)
 | [], f + 1, k, o, _, _ => by
  show Bench.parseO (f + 1) [] k o = _
  rw [Bench.parseO_nil]
  simp [opsOf']
 | p :: l, f + 1, k, o, hf, h => by
  have hp := h p (by simp)
  have hr := line_rng hp
  have ht := text_rng l (fun q hq => h q (List.mem_cons_of_mem _ hq))
  have e : textOf (p :: l) = Bench.lineOf p.1 p.2 ++ 10 :: textOf l := by
   show (Bench.lineOf p.1 p.2 ++ [10]) ++ textOf l = _
   rw [List.append_assoc]
   rfl
  have hc := Bench.cut_hit (c := 10) hr.1 ht (by omega) hr.2
  rw [← e] at hc
  have hne : textOf (p :: l) ≠ [] := by rw [e]; simp
  have hrl := Bench.readB_line hp
  rw [Bench.parseO_good hne hc.2.2 (by rw [hc.1, hrl]), hc.1, hc.2.1, hrl, parseO_text l f _ _ (by simp only [List.length_cons] at hf; omega) (fun q hq => h q (List.mem_cons_of_mem _ hq))]
  simp [opsOf']
theorem text_len : ∀ l : List (Int × Int), l.length ≤ (textOf l).length
 | [] => Nat.zero_le _
 | p :: l => by
  have := text_len l
  have e : textOf (p :: l) = (Bench.lineOf p.1 p.2 ++ [10]) ++ textOf l := rfl
  rw [e, List.length_append, List.length_append, List.length_cons]
  simp only [List.length_cons, List.length_nil]
  omega
theorem parse_text (l : List (Int × Int)) (h : ∀ p ∈ l, Bench.okN p.1 p.2) : Bench.parseB (textOf l) = (opsOf' l, 0, 0) := by
 have := text_len l
 unfold Bench.parseB
 rw [parseO_text l _ 0 [] (by omega) h]
 rfl
theorem dec1 {n : Int} (h0 : 0 ≤ n) (h1 : n < 10) : Bench.dec n = [48 + n] := by
 unfold Bench.dec Bench.un8
 rw [Go.Lib.decDigits_one (by omega), List.map_cons, List.map_nil, Bench.dig_val (by omega)]
 congr 1
 omega
theorem dec2 {n : Int} (h0 : 10 ≤ n) (h1 : n < 100) : Bench.dec n = [48 + n / 10, 48 + n % 10] := by
 unfold Bench.dec Bench.un8
 rw [Go.Lib.decDigits_two (by omega) (by omega), List.map_cons, List.map_cons, List.map_nil, Bench.dig_val (by omega), Bench.dig_val (by omega)]
 have e1 : ((48 + n.toNat / 10 : Nat) : Int) = 48 + n / 10 := by omega
 have e2 : ((48 + n.toNat % 10 : Nat) : Int) = 48 + n % 10 := by omega
 rw [e1, e2]
def aliveL : List (Int × Int) := [(1, 97), (2, 1), (4, 0), (2, 0), (5, 0), (2, 0), (2, 0), (2, 0), (2, 1)]
def aliveT : List Int := [105, 110, 32, 57, 55, 10, 114, 117, 110, 32, 49, 10, 115, 97, 118, 101, 32, 48, 10, 114, 117, 110, 32, 48, 10, 114, 101, 115, 116, 111, 114, 101, 32, 48, 10, 114, 117, 110, 32, 48, 10, 114, 117, 110, 32, 48, 10, 114, 117, 110, 32, 48, 10, 114, 117, 110, 32, 49, 10]
theorem alive_text : textOf aliveL = aliveT := by
 unfold textOf aliveL Bench.lineOf
 simp only [List.map_cons, List.map_nil, dec2 (n := 97) (by decide) (by decide), dec1 (n := 0) (by decide) (by decide), dec1 (n := 1) (by decide) (by decide)]
 rfl
theorem alive_ok : ∀ p ∈ aliveL, Bench.okN p.1 p.2 := by
 intro p hp
 unfold aliveL at hp
 simp only [List.mem_cons, List.not_mem_nil, or_false] at hp
 rcases hp with e | e | e | e | e | e | e | e | e <;> subst e <;> exact ⟨by decide, by decide, by decide, by decide, by decide⟩
theorem alive_parse : Bench.parseB aliveT = (opsOf' aliveL, 0, 0) := by rw [← alive_text, parse_text _ alive_ok]
theorem alive_ypl : Kern.ypl (opsOf' aliveL) = (([], [], ([], [97]), 0, 1, -1, -1, 0, [0, 0]), [(0, []), (7, []), (0, []), (7, []), (0, []), (0, []), (0, []), (0, []), (0, [])]) := by kernel_rfl
theorem alive_tell : (Tell.tellB aliveT).2 = 0 ∧ (Tell.tellB aliveT).1.length = 10 ∧ (Tell.tellB aliveT).1.getD 1 [] = [101, 114, 114, 111, 114, 32, 55] ∧ (Tell.tellB aliveT).1.getD 3 [] = [101, 114, 114, 111, 114, 32, 55] ∧
  (Tell.tellB aliveT).1.getD 9 [] = [108, 101, 102, 116, 32, 48, 32, 48, 32, 48, 32, 49, 32, 48, 32, 49] := by
 have e : Tell.tellB aliveT = ([[111, 107], [101, 114, 114, 111, 114, 32, 55], [111, 107], [101, 114, 114, 111, 114, 32, 55], [111, 107], [111, 107], [111, 107], [111, 107], [111, 107], [108, 101, 102, 116, 32, 48, 32, 48, 32, 48, 32, 49, 32, 48, 32, 49]], 0) := by
  unfold Tell.tellB Tell.ansB Tell.opsB
  rw [alive_parse, alive_ypl]
  simp only [ne_eq, not_true_eq_false, if_false]
  unfold Tell.linesA Tell.leftA Tell.nums Kern.yend
  simp [Tell.lineA, opsOf', aliveL, Bench.mkO, List.range, List.range.loop, dec1 (n := 7) (by decide) (by decide), dec1 (n := 0) (by decide) (by decide), dec1 (n := 1) (by decide) (by decide)]
 rw [e]
 exact ⟨rfl, rfl, rfl, rfl, rfl⟩
theorem e_alive (x : Unit) (_ : True) (_ : LensL cAlive.as x) : E_alive x := by
 have hl := alive_tell.2.1
 unfold aliveT at hl
 unfold E_alive
 delta qalive_1 qalive_2 qalive_3
 refine ⟨⟨by decide⟩, fun h => h, fun h => h, fun h => h, fun _ => ⟨rfl, by decide, ?_⟩, fun h => h, fun h => h, fun h => h, fun _ => ⟨rfl, by decide, ?_⟩, fun h => h, fun h => h, fun h => h, fun _ => ⟨rfl, by decide, ?_⟩, fun h => h, fun h => h, fun h => h, rfl⟩
 all_goals (rw [hl]; decide)

theorem cost_app : ∀ (a b : List (List Int)), cost (a ++ b) = cost a + cost b
 | [], b => by simp [cost]
 | l :: a, b => by
  rw [List.cons_append, cost, cost_app a b, cost]
  omega
theorem flat_cost : ∀ ls : List (List Int), ls.flatten.length ≤ cost ls
 | [] => by simp [cost]
 | l :: r => by
  have := flat_cost r
  rw [List.flatten_cons, List.length_append, cost]
  omega
theorem key_cost (t : List (List Int) × List Int) (b : Int) : cost (key1 t b).1 + (key1 t b).2.length ≤ cost t.1 + t.2.length + 1 := by
 unfold key1
 by_cases he : (Tty.keyT t b).2 = 0
 ·rw [if_pos he]
  unfold Tty.keyT at he ⊢
  by_cases hr : Tty.rightT t = false
  ·rw [if_pos hr] at he
   exact absurd (show (1 : Int) = 0 from he) (by decide)
  rw [if_neg hr] at he ⊢
  by_cases b10 : b = 10
  ·rw [if_pos b10] at he ⊢
   by_cases hl : t.1.length = 400
   ·rw [if_pos hl] at he
    exact absurd (show (4 : Int) = 0 from he) (by decide)
   ·rw [if_neg hl]
    show cost (t.1 ++ [t.2 ++ [10]]) + 0 ≤ _
    rw [cost_app]
    simp only [cost, List.length_append, List.length_singleton]
    omega
  rw [if_neg b10] at he ⊢
  by_cases b4 : b = 4
  ·rw [if_pos b4] at he ⊢
   by_cases hl : t.1.length = 400
   ·rw [if_pos hl] at he
    exact absurd (show (4 : Int) = 0 from he) (by decide)
   ·rw [if_neg hl]
    show cost (t.1 ++ [t.2]) + 0 ≤ _
    rw [cost_app]
    simp only [cost]
    omega
  rw [if_neg b4] at he ⊢
  by_cases b8 : b = 8
  ·rw [if_pos b8]
   show cost t.1 + (t.2.take _).length ≤ _
   rw [List.length_take]
   omega
  rw [if_neg b8] at he ⊢
  by_cases b21 : b = 21
  ·rw [if_pos b21]
   show cost t.1 + 0 ≤ _
   omega
  rw [if_neg b21] at he ⊢
  by_cases b23 : b = 23
  ·rw [if_pos b23]
   show cost t.1 + (t.2.take _).length ≤ _
   rw [List.length_take]
   omega
  rw [if_neg b23] at he ⊢
  by_cases hl : t.2.length = 64
  ·rw [if_pos hl] at he
   exact absurd (show (4 : Int) = 0 from he) (by decide)
  ·rw [if_neg hl]
   show cost t.1 + (t.2 ++ [b]).length ≤ _
   rw [List.length_append, List.length_singleton]
   omega
 ·rw [if_neg he]
  omega
theorem keys_cost : ∀ (ks : List Int) (t : List (List Int) × List Int), cost (ks.foldl key1 t).1 + (ks.foldl key1 t).2.length ≤ cost t.1 + t.2.length + ks.length
 | [], t => by simp
 | b :: ks, t => by
  have h1 := key_cost t b
  have h2 := keys_cost ks (key1 t b)
  rw [List.foldl_cons, List.length_cons]
  omega
theorem keys_right : ∀ (ks : List Int) (t : List (List Int) × List Int), Tty.rightT t = true → Tty.rightT (ks.foldl key1 t) = true
 | [], t, h => h
 | b :: ks, t, h => by
  rw [List.foldl_cons]
  refine keys_right ks _ ?_
  unfold key1
  by_cases he : (Tty.keyT t b).2 = 0
  ·rw [if_pos he]
   exact Tell.key_right h he
  ·rw [if_neg he]
   exact h
theorem typ_cost (ks : List Int) : cost (Tty.typ ks).1 ≤ ks.length := by
 have := keys_cost ks ([], [])
 have e : Tty.typ ks = ks.foldl key1 ([], []) := rfl
 rw [e]
 simp only [cost, List.length_nil] at this
 omega
theorem typ_right (ks : List Int) : Tty.rightT (Tty.typ ks) = true := keys_right ks ([], []) (by decide)
theorem read_none {t : List (List Int) × List Int} {m : Int} (h : Tty.rightT t = true) (hm : 1 ≤ m) (hl : t.1 = []) : (Tty.readT t m).2.2.1 = 7 := by
 obtain ⟨ls, ed⟩ := t
 have hl : ls = [] := hl
 subst hl
 unfold Tty.readT
 rw [h, if_neg (by simp), if_neg (by omega)]
theorem read_some {t : List (List Int) × List Int} {m : Int} (h : Tty.rightT t = true) (hm : 1 ≤ m) (hl : ¬ t.1 = []) :
  (Tty.readT t m).2.2.1 = 0 ∧ (Tty.readT t m).2.1 ++ (Tty.readT t m).1.1.flatten = t.1.flatten ∧ ((Tty.readT t m).2.1.length : Int) ≤ m ∧ cost (Tty.readT t m).1.1 + 1 ≤ cost t.1 ∧ Tty.rightT (Tty.readT t m).1 = true := by
 have hr := Tell.read_right (m := m) h
 obtain ⟨ls, ed⟩ := t
 cases ls with
 | nil => exact absurd rfl hl
 | cons l r =>
  unfold Tty.readT at hr ⊢
  rw [h, if_neg (by simp), if_neg (by omega)] at hr ⊢
  simp only [] at hr ⊢
  by_cases hlm : (l.length : Int) ≤ m
  ·rw [if_pos hlm] at hr ⊢
   refine ⟨rfl, rfl, hlm, ?_, hr.1 rfl⟩
   show cost r + 1 ≤ cost (l :: r)
   rw [cost]
   omega
  ·rw [if_neg hlm] at hr ⊢
   refine ⟨rfl, ?_, ?_, ?_, hr.1 rfl⟩
   ·show l.take m.toNat ++ (l.drop m.toNat :: r).flatten = (l :: r).flatten
    rw [List.flatten_cons, List.flatten_cons, ← List.append_assoc, List.take_append_drop]
   ·show ((l.take m.toNat).length : Int) ≤ m
    rw [List.length_take]
    omega
   ·show cost (l.drop m.toNat :: r) + 1 ≤ cost (l :: r)
    rw [cost, cost, List.length_drop]
    omega
theorem pipe_right {h : List Int} (hl : h.length ≤ 64) : Pipep.right (h, 1, 1) = true := by
 unfold Pipep.right
 simp [hl]
theorem pipe_write {h d : List Int} {m : Int} (hl : h.length ≤ 64) (hd : d.length ≤ 16) : Pipep.step (h, 1, 1) (1, m, d) = if 64 < h.length + d.length then Pipep.bad 7 else Pipep.fin (h ++ d, 1, 1) d.length [] := by
 unfold Pipep.step
 rw [pipe_right hl, if_neg (by simp)]
 by_cases hf : 64 < h.length + d.length
 ·have : Pipep.full (h, 1, 1) d = true := by
   unfold Pipep.full
   simp [hf, hd]
  rw [if_pos hf]
  simp [this]
 ·have : Pipep.full (h, 1, 1) d = false := by
   unfold Pipep.full
   simp [hf]
  have e1 : d.take (64 - h.length) = d := List.take_of_length_le (by omega)
  have e2 : min (64 - (h.length : Int)) (d.length : Int) = d.length := by omega
  rw [if_neg hf]
  simp [this, e1, e2]
theorem pipe_read {h : List Int} {m : Int} {d : List Int} (hl : h.length ≤ 64) (hm : 1 ≤ m) (hne : h ≠ []) : Pipep.step (h, 1, 1) (2, m, d) = Pipep.fin (h.drop m.toNat, 1, 1) 0 (h.take m.toNat) := by
 unfold Pipep.step
 rw [pipe_right hl, if_neg (by simp)]
 have : ¬ m < 1 := by omega
 simp [this, hne]

theorem pipe_cases {h d : List Int} (hl : h.length ≤ 64) (hd : d.length ≤ 16) : (h.length + d.length ≤ 64 ∧ Pipep.step (h, 1, 1) (1, 0, d) = Pipep.fin (h ++ d, 1, 1) d.length []) ∨ (h ≠ [] ∧ Pipep.step (h, 1, 1) (1, 0, d) = Pipep.bad 7) := by
 have hw := pipe_write (m := 0) hl hd
 by_cases hf : 64 < h.length + d.length
 ·rw [if_pos hf] at hw
  refine .inr ⟨fun e => ?_, hw⟩
  rw [e, List.length_nil] at hf
  omega
 ·rw [if_neg hf] at hw
  exact .inl ⟨by omega, hw⟩
theorem two_flat (o h : List Int) : ([o, []].set 1 h).flatten = o ++ h := by simp
theorem e_piped (x : List Int × Int × Int × Unit) (_ : True) (hl : LensL cPiped.as x) : E_piped x := by
 obtain ⟨ks, part, most, u⟩ := x
 have hcost := typ_cost ks
 have hflat := flat_cost (Tty.typ ks).1
 unfold E_piped
 delta qpiped_t1 qpiped_t2 qpiped_2 qpiped_3 qpiped_4 qpiped_5 qpiped_9 qpiped_10 qpiped_1 qpiped_7 qpiped_8 qpiped_6
 simp only [pair_eta]
 simp (maxSteps := 10000000) only [Bool.not_eq_true', Bool.not_eq_false', Bool.not_eq_true, Bool.not_eq_false, beq_self_eq_true, decide_eq_true_eq, decide_eq_false_iff_not, Bool.not_false, Bool.not_true, beq_iff_eq, beq_eq_false_iff_ne, bne_iff_ne, ne_eq, bne_eq_false_iff_eq, holds_iff, true_and, and_true, and_self, eq_self, List.length_cons, List.length_nil, List.length_append, List.length_set, List.length_replicate, List.set_cons_zero, cond_true, cond_false, Bool.false_eq_true, Bool.true_eq_false, forall_const, false_imp_iff, imp_self, implies_true, and_imp, Decidable.not_not, Bool.and_eq_true, Bool.or_eq_true, Bool.and_eq_false_iff, Bool.or_eq_false_iff, ← List.length_eq_zero_iff, or_self, or_false, false_or, Prod.forall, Int.reduceEq, Int.reduceLT, Int.reduceLE, List.nil_append, Nat.zero_add, Int.toNat_zero, List.drop_zero, List.length_drop, List.length_take, not_true_eq_false, not_false_eq_true,  RR_eq, pair_eta, two_flat]
 intro p1 p2 m1 n3
 have p1 : ¬ part < (1 : Int) := p1
 have p2 : ¬ (16 : Int) < part := p2
 have m1 : ¬ most < (1 : Int) := m1
 have n3 : ¬ (300 : Int) < (ks.length : Int) := n3
 refine ⟨by omega, ⟨by omega, by omega⟩, ⟨by omega, ⟨typ_right ks, rfl, rfl, by simp, by simp⟩, by omega⟩, ?_⟩
 intro ls ed has W R o k k0 _ hp hc _ _ _ _ _ _ _ _ _ _ _ _ _ _
 obtain ⟨hr, hW, hR, hl64, heq⟩ := hp
 have hr : Tty.rightT (ls, ed) = true := hr
 have heq : o ++ has ++ ls.flatten = (Tty.typ ks).1.flatten := heq
 have hl64 : has.length ≤ 64 := hl64
 have k0 : (0 : Int) ≤ k := k0
 have hc : (cost ls : Int) + k ≤ (ks.length : Int) := hc
 have hT := congrArg List.length heq
 rw [List.length_append, List.length_append] at hT
 refine ⟨fun h => ?_, fun h => ?_⟩
 ·have h : k < (ks.length : Int) + 2 := h
  by_cases hls : ls = []
  ·have h7 := read_none (t := (ls, ed)) hr (show (1 : Int) ≤ part by omega) hls
   have hfl : o ++ has = (Tty.typ ks).1.flatten := by rw [← heq, hls, List.flatten_nil, List.append_nil]
   refine ⟨fun _ => ⟨by omega, hfl⟩, fun n7 => absurd h7 n7⟩
  ·obtain ⟨s1, s2, s3, s4, s5⟩ := read_some (t := (ls, ed)) hr (show (1 : Int) ≤ part by omega) hls
   have s4 : cost (Tty.readT (ls, ed) part).1.1 + 1 ≤ cost ls := s4
   have hm : (Tty.readT (ls, ed) part).2.1.length ≤ 16 := by omega
   refine ⟨fun h7 => ?_, fun _ => ⟨fun h0 => absurd s1 h0, fun _ => ⟨⟨hW, hR, hl64, ?_⟩, ?_⟩⟩⟩
   ·have := s1.symm.trans h7
    exact absurd this (by decide)
   ·rw [List.append_assoc (o ++ has), s2]
    exact heq
   intro h' W' R' o' hW' hR' hl' he' _ _ _ _ _ _ _ _
   have hW' : W' = 1 := hW'
   have hR' : R' = 1 := hR'
   subst hW' hR'
   have hl' : h'.length ≤ 64 := hl'
   have hT' := congrArg List.length he'
   rw [List.length_append, List.length_append, List.length_append] at hT'
   refine ⟨by omega, ?_⟩
   rcases pipe_cases hl' hm with ⟨hf, hw⟩ | ⟨hne, hw⟩
   ·rw [hw]
    dsimp only [Pipep.fin]
    refine ⟨fun _ => ⟨fun hn => hn rfl, fun _ => ⟨⟨by omega, by omega⟩, ⟨by omega, by omega, ⟨s5, rfl, rfl, by rw [List.length_append]; omega, ?_⟩, by omega⟩, by omega⟩⟩, fun hn => absurd rfl hn⟩
    rw [← List.append_assoc]
    exact he'
   ·have hrd := pipe_read (m := most) (d := []) hl' (by omega) hne
    have hpos : 0 < h'.length := List.length_pos_iff.2 hne
    rw [hw, hrd]
    dsimp only [Pipep.fin, Pipep.bad]
    refine ⟨fun h0 => absurd h0 (by decide), fun _ => ⟨by omega, fun hh => ?_, fun _ _ _ => ⟨⟨?_, ?_⟩, ⟨rfl, rfl, ?_, ?_⟩, ?_⟩⟩⟩
    ·rcases hh with (hh | hh) | hh
     ·exact hh rfl
     ·exact hh rfl
     ·rw [List.length_take] at hh
      omega
    ·rw [List.length_take]
     omega
    ·rw [List.length_take]
     omega
    ·rw [List.length_drop]
     omega
    ·rw [List.append_assoc o', List.take_append_drop]
     exact he'
    ·rw [List.length_drop]
     omega
 ·have h : ¬ k < (ks.length : Int) + 2 := h
  omega

end Go.Proofs.YtdhldloajddfiaaGreatDoor.Topp
