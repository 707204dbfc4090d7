/-
 The conditions, proved.
-/
import Derived.Test.YtdhldloajddfiaaGreatDoorTopE
namespace Go.Proofs.YtdhldloajddfiaaGreatDoor.Top
open Go.Sx
set_option maxRecDepth 100000
set_option maxHeartbeats 1000000
set_option linter.unusedSimpArgs false
set_option linter.unusedVariables false

def opsOf' (l : List (Int × Int)) : List (Int × Int × Int × Int) := l.map fun p => Bench.mkO p.1 p.2
theorem line_rng {k n : Int} (h : Bench.okN k n) : (∀ b ∈ Bench.lineOf k n, 0 ≤ b ∧ b ≤ 255) ∧ (10 : Int) ∉ Bench.lineOf k n := by
 obtain ⟨h1, h2, h3, h4, h5⟩ := h
 have hw := Bench.wordAt_rng h1 h2
 have h10 : (10 : Int) ∉ Bench.wordAt k := by
  have : k = 1 ∨ k = 2 ∨ k = 3 ∨ k = 4 ∨ k = 5 ∨ k = 6 := by omega
  rcases this with e | e | e | e | e | e <;> subst e <;> decide
 refine ⟨fun b hb => ?_, fun hb => ?_⟩
 ·rcases List.mem_append.1 hb with hb | hb
  ·exact hw.1 b hb
  ·rcases List.mem_append.1 hb with hb | hb
   ·have := List.mem_singleton.1 hb
    omega
   ·exact Bench.dec_rng8 n b hb
 ·rcases List.mem_append.1 hb with hb | hb
  ·exact h10 hb
  ·rcases List.mem_append.1 hb with hb | hb
   ·have := List.mem_singleton.1 hb
    omega
   ·have := Bench.dec_rng n 10 hb
    omega
theorem text_rng : ∀ (l : List (Int × Int)), (∀ p ∈ l, Bench.okN p.1 p.2) → ∀ b ∈ textOf l, 0 ≤ b ∧ b ≤ 255
 | [], _, b, hb => by cases hb
 | p :: l, h, b, hb => by
  have hb : b ∈ (Bench.lineOf p.1 p.2 ++ [10]) ++ textOf l := hb
  rcases List.mem_append.1 hb with hb | hb
  ·rcases List.mem_append.1 hb with hb | hb
   ·exact (line_rng (h p (by simp))).1 b hb
   ·have := List.mem_singleton.1 hb
    omega
  ·exact text_rng l (fun q hq => h q (List.mem_cons_of_mem _ hq)) b hb
theorem parseO_text : ∀ (l : List (Int × Int)) (f : Nat) (k : Int) (o : List (Int × Int × Int × Int)), l.length < f → (∀ p ∈ l, Bench.okN p.1 p.2) → Bench.parseO f (textOf l) k o = (o ++ opsOf' l, 0, 0)
 | [], f + 1, k, o, _, _ => by
  show Bench.parseO (f + 1) [] k o = _
  rw [Bench.parseO_nil]
  simp [opsOf']
 | p :: l, f + 1, k, o, hf, h => by
  have hp := h p (by simp)
  have hr := line_rng hp
  have ht := text_rng l (fun q hq => h q (List.mem_cons_of_mem _ hq))
  have e : textOf (p :: l) = Bench.lineOf p.1 p.2 ++ 10 :: textOf l := by
   show (Bench.lineOf p.1 p.2 ++ [10]) ++ textOf l = _
   rw [List.append_assoc]
   rfl
  have hc := Bench.cut_hit (c := 10) hr.1 ht (by omega) hr.2
  rw [← e] at hc
  have hne : textOf (p :: l) ≠ [] := by rw [e]; simp
  have hrl := Bench.readB_line hp
  rw [Bench.parseO_good hne hc.2.2 (by rw [hc.1, hrl]), hc.1, hc.2.1, hrl, parseO_text l f _ _ (by simp only [List.length_cons] at hf; omega) (fun q hq => h q (List.mem_cons_of_mem _ hq))]
  simp [opsOf']
theorem text_len : ∀ l : List (Int × Int), l.length ≤ (textOf l).length
 | [] => Nat.zero_le _
 | p :: l => by
  have := text_len l
  have e : textOf (p :: l) = (Bench.lineOf p.1 p.2 ++ [10]) ++ textOf l := rfl
  rw [e, List.length_append, List.length_append, List.length_cons]
  simp only [List.length_cons, List.length_nil]
  omega
theorem parse_text (l : List (Int × Int)) (h : ∀ p ∈ l, Bench.okN p.1 p.2) : Bench.parseB (textOf l) = (opsOf' l, 0, 0) := by
 have := text_len l
 unfold Bench.parseB
 rw [parseO_text l _ 0 [] (by omega) h]
 rfl
theorem dec1 {n : Int} (h0 : 0 ≤ n) (h1 : n < 10) : Bench.dec n = [48 + n] := by
 unfold Bench.dec Bench.un8
 rw [Go.Lib.decDigits_one (by omega), List.map_cons, List.map_nil, Bench.dig_val (by omega)]
 congr 1
 omega
theorem dec2 {n : Int} (h0 : 10 ≤ n) (h1 : n < 100) : Bench.dec n = [48 + n / 10, 48 + n % 10] := by
 unfold Bench.dec Bench.un8
 rw [Go.Lib.decDigits_two (by omega) (by omega), List.map_cons, List.map_cons, List.map_nil, Bench.dig_val (by omega), Bench.dig_val (by omega)]
 have e1 : ((48 + n.toNat / 10 : Nat) : Int) = 48 + n / 10 := by omega
 have e2 : ((48 + n.toNat % 10 : Nat) : Int) = 48 + n % 10 := by omega
 rw [e1, e2]
def aliveL : List (Int × Int) := [(1, 97), (2, 1), (4, 0), (2, 0), (5, 0), (2, 0), (2, 0), (2, 0), (2, 1)]
def aliveT : List Int := [105, 110, 32, 57, 55, 10, 114, 117, 110, 32, 49, 10, 115, 97, 118, 101, 32, 48, 10, 114, 117, 110, 32, 48, 10, 114, 101, 115, 116, 111, 114, 101, 32, 48, 10, 114, 117, 110, 32, 48, 10, 114, 117, 110, 32, 48, 10, 114, 117, 110, 32, 48, 10, 114, 117, 110, 32, 49, 10]
theorem alive_text : textOf aliveL = aliveT := by
 unfold textOf aliveL Bench.lineOf
 simp only [List.map_cons, List.map_nil, dec2 (n := 97) (by decide) (by decide), dec1 (n := 0) (by decide) (by decide), dec1 (n := 1) (by decide) (by decide)]
 rfl
theorem alive_ok : ∀ p ∈ aliveL, Bench.okN p.1 p.2 := by
 intro p hp
 unfold aliveL at hp
 simp only [List.mem_cons, List.not_mem_nil, or_false] at hp
 rcases hp with e | e | e | e | e | e | e | e | e <;> subst e <;> exact ⟨by decide, by decide, by decide, by decide, by decide⟩
theorem alive_parse : Bench.parseB aliveT = (opsOf' aliveL, 0, 0) := by rw [← alive_text, parse_text _ alive_ok]
theorem alive_ypl : Kern.ypl (opsOf' aliveL) = (([], [], ([], [97]), 0, 1, -1, -1, 0, [0, 0]), [(0, []), (7, []), (0, []), (7, []), (0, []), (0, []), (0, []), (0, []), (0, [])]) := by kernel_rfl
theorem alive_tell : (Tell.tellB aliveT).2 = 0 ∧ (Tell.tellB aliveT).1.length = 10 ∧ (Tell.tellB aliveT).1.getD 1 [] = [101, 114, 114, 111, 114, 32, 55] ∧ (Tell.tellB aliveT).1.getD 3 [] = [101, 114, 114, 111, 114, 32, 55] ∧
  (Tell.tellB aliveT).1.getD 9 [] = [108, 101, 102, 116, 32, 48, 32, 48, 32, 48, 32, 49, 32, 48, 32, 49] := by
 have e : Tell.tellB aliveT = ([[111, 107], [101, 114, 114, 111, 114, 32, 55], [111, 107], [101, 114, 114, 111, 114, 32, 55], [111, 107], [111, 107], [111, 107], [111, 107], [111, 107], [108, 101, 102, 116, 32, 48, 32, 48, 32, 48, 32, 49, 32, 48, 32, 49]], 0) := by
  unfold Tell.tellB Tell.ansB Tell.opsB
  rw [alive_parse, alive_ypl]
  simp only [ne_eq, not_true_eq_false, if_false]
  unfold Tell.linesA Tell.leftA Tell.nums Kern.yend
  simp [Tell.lineA, opsOf', aliveL, Bench.mkO, List.range, List.range.loop, dec1 (n := 7) (by decide) (by decide), dec1 (n := 0) (by decide) (by decide), dec1 (n := 1) (by decide) (by decide)]
 rw [e]
 exact ⟨rfl, rfl, rfl, rfl, rfl⟩
theorem e_alive (x : Unit) (_ : True) (_ : LensL cAlive.as x) : E_alive x := by
 have hl := alive_tell.2.1
 unfold aliveT at hl
 unfold E_alive
 delta qalive_1 qalive_2 qalive_3
 refine ⟨⟨by decide⟩, fun h => h, fun h => h, fun h => h, fun _ => ⟨rfl, by decide, ?_⟩, fun h => h, fun h => h, fun h => h, fun _ => ⟨rfl, by decide, ?_⟩, fun h => h, fun h => h, fun h => h, fun _ => ⟨rfl, by decide, ?_⟩, fun h => h, fun h => h, fun h => h, rfl⟩
 all_goals (rw [hl]; decide)

def key1 (t : List (List Int) × List Int) (b : Int) : List (List Int) × List Int := if (Tty.keyT t b).2 = 0 then (Tty.keyT t b).1 else t
def echoL (c : Int) (w : List Int) : List (Int × Int) := [(6, c)] ++ (w.map (five c)).flatten ++ [(3, 100)]
def none5 : List (Int × List Int) := [(0, []), (0, []), (0, []), (0, []), (0, [])]
theorem five_fold {c b : Int} (hc : c = 0 ∨ c = 1) (hb : 0 ≤ b ∧ b ≤ 255) (t : List (List Int) × List Int) (tk : Int) (an : List (Int × List Int)) :
  (opsOf' (five c b)).foldl Kern.yone (([], [], t, 0, tk, -1, -1, c, [0, 0]), an) = (([], [], key1 t b, 0, tk + 1, -1, -1, c, [0, 0]), an ++ none5) := by
 have e : b % 256 = b := by omega
 rcases hc with rfl | rfl <;> simp [opsOf', five, Bench.mkO, Kern.yone, Kern.ydo, Kern.ybody, Kern.yask, e, key1, none5]
theorem opsOf_app (a b : List (Int × Int)) : opsOf' (a ++ b) = opsOf' a ++ opsOf' b := by simp [opsOf']
theorem fives_fold {c : Int} (hc : c = 0 ∨ c = 1) : ∀ (w : List Int) (t : List (List Int) × List Int) (tk : Int) (an : List (Int × List Int)), (∀ b ∈ w, 0 ≤ b ∧ b ≤ 255) →
  (opsOf' ((w.map (five c)).flatten)).foldl Kern.yone (([], [], t, 0, tk, -1, -1, c, [0, 0]), an) = (([], [], w.foldl key1 t, 0, tk + w.length, -1, -1, c, [0, 0]), an ++ (w.map fun _ => none5).flatten)
 | [], t, tk, an, _ => by simp [opsOf']
 | b :: w, t, tk, an, h => by
  rw [List.map_cons, List.flatten_cons, opsOf_app, List.foldl_append, five_fold hc (h b (by simp)), fives_fold hc w _ _ _ (fun x hx => h x (List.mem_cons_of_mem _ hx))]
  rw [List.foldl_cons, List.map_cons, List.flatten_cons, List.length_cons, List.append_assoc]
  have : tk + 1 + (w.length : Int) = tk + ((w.length + 1 : Nat) : Int) := by omega
  rw [this]
theorem keyT_plain {e : List Int} {b : Int} (hb : 32 ≤ b) (he : e.length < 64) : Tty.keyT ([], e) b = (([], e ++ [b]), 0) := by
 have hr : Tty.rightT ([], e) = true := Tell.right_iff.2 ⟨by show e.length ≤ 64; omega, by simp, fun l hl => by cases hl⟩
 have e64 : ¬ e.length = 64 := by omega
 unfold Tty.keyT
 rw [hr, if_neg (by simp), if_neg (by omega), if_neg (by omega), if_neg (by omega), if_neg (by omega), if_neg (by omega), if_neg e64]
theorem key_plain {e : List Int} {b : Int} (hb : 32 ≤ b) (he : e.length < 64) : key1 ([], e) b = ([], e ++ [b]) := by
 unfold key1
 rw [keyT_plain hb he, if_pos rfl]
theorem keyT_line {e : List Int} (he : e.length ≤ 64) : Tty.keyT ([], e) 10 = (([e ++ [10]], []), 0) := by
 have hr : Tty.rightT ([], e) = true := Tell.right_iff.2 ⟨he, by simp, fun l hl => by cases hl⟩
 unfold Tty.keyT
 rw [hr, if_neg (by simp), if_pos rfl]
 simp
theorem key_line {e : List Int} (he : e.length ≤ 64) : key1 ([], e) 10 = ([e ++ [10]], []) := by
 unfold key1
 rw [keyT_line he, if_pos rfl]
theorem keys_word : ∀ (w e : List Int), (∀ b ∈ w, 32 ≤ b) → e.length + w.length ≤ 64 → w.foldl key1 ([], e) = ([], e ++ w)
 | [], e, _, _ => by simp
 | b :: w, e, h, hl => by
  rw [List.length_cons] at hl
  rw [List.foldl_cons, key_plain (h b (by simp)) (by omega), keys_word w (e ++ [b]) (fun x hx => h x (List.mem_cons_of_mem _ hx)) (by rw [List.length_append, List.length_singleton]; omega), List.append_assoc]
  rfl
theorem echo_ypl {c : Int} (hc : c = 0 ∨ c = 1) {w : List Int} (hw : ∀ b ∈ w, 32 ≤ b ∧ b ≤ 255) (hl : w.length ≤ 64) :
  (Kern.ypl (opsOf' (echoL c (w ++ [10])))).2 = ([(0, [])] ++ ((w ++ [10]).map fun _ => none5).flatten) ++ [(0, w ++ [10])] := by
 have hr : ∀ b ∈ w ++ [10], 0 ≤ b ∧ b ≤ 255 := fun b hb => by
  rcases List.mem_append.1 hb with hb | hb
  ·have := hw b hb
   omega
  ·have := List.mem_singleton.1 hb
   omega
 have h1 : (opsOf' [(6, c)]).foldl Kern.yone (Kern.y0, []) = (([], [], ([], []), 0, 0, -1, -1, c, [0, 0]), [(0, [])]) := by
  rcases hc with rfl | rfl <;> simp [opsOf', Bench.mkO, Kern.yone, Kern.ydo, Kern.ybody, Kern.yask, Kern.y0]
 have hk : (w ++ [10]).foldl key1 ([], []) = ([w ++ [10]], []) := by
  rw [List.foldl_append, keys_word w [] (fun b hb => (hw b hb).1) (by simpa using hl)]
  simpa using key_line hl
 have hrt : Tty.rightT ([w ++ [10]], []) = true := Tell.right_iff.2 ⟨by simp, by simp, fun l hl' => by
  rw [List.mem_singleton.1 hl', List.length_append, List.length_singleton]
  omega⟩
 have hrd : Tty.readT ([w ++ [10]], []) 100 = (([], []), w ++ [10], 0, ()) := by
  have hlen : ((w ++ [10]).length : Int) ≤ 100 := by
   rw [List.length_append, List.length_singleton]
   omega
  unfold Tty.readT
  rw [if_neg (by rw [hrt]; decide), if_neg (by omega)]
  simp only []
  rw [if_pos hlen]
 unfold Kern.ypl echoL
 rw [opsOf_app, opsOf_app, List.foldl_append, List.foldl_append, h1, fives_fold hc _ _ _ _ hr, hk]
 show ((opsOf' [(3, 100)]).foldl Kern.yone _).2 = _
 simp only [opsOf', List.map_cons, List.map_nil, List.foldl_cons, List.foldl_nil, Kern.yone, Kern.ydo]
 congr 1
 simp [Bench.mkO, Kern.ybody, hrd]
theorem opsOf_len (l : List (Int × Int)) : (opsOf' l).length = l.length := by simp [opsOf']
theorem flat5_len {α : Type} (f : Int → List α) (h : ∀ b, (f b).length = 5) : ∀ w : List Int, ((w.map f).flatten).length = 5 * w.length
 | [] => rfl
 | b :: w => by
  rw [List.map_cons, List.flatten_cons, List.length_append, h, flat5_len f h w, List.length_cons]
  omega
theorem echo_len (c : Int) (w : List Int) : (echoL c w).length = 5 * w.length + 2 := by
 unfold echoL
 rw [List.length_append, List.length_append, flat5_len (five c) (fun _ => rfl)]
 simp only [List.length_cons, List.length_nil]
 omega
theorem echo_ok {c : Int} (hc : c = 0 ∨ c = 1) {w : List Int} (hw : ∀ b ∈ w, 0 ≤ b ∧ b ≤ 255) : ∀ p ∈ echoL c w, Bench.okN p.1 p.2 := by
 intro p hp
 unfold echoL at hp
 rcases List.mem_append.1 hp with hp | hp
 ·rcases List.mem_append.1 hp with hp | hp
  ·rw [List.mem_singleton.1 hp]
   rcases hc with rfl | rfl <;> exact ⟨by decide, by decide, by decide, by decide, by decide⟩
  ·obtain ⟨l, hl, hp⟩ := List.mem_flatten.1 hp
   obtain ⟨b, hb, rfl⟩ := List.mem_map.1 hl
   have := hw b hb
   unfold five at hp
   simp only [List.mem_cons, List.not_mem_nil, or_false] at hp
   rcases hp with e | e | e | e | e <;> subst e
   ·exact ⟨show (1 : Int) ≤ 1 by decide, show (1 : Int) ≤ 6 by decide, this.1, by show b ≤ 1099511627776; omega, fun _ => this.2⟩
   all_goals (rcases hc with rfl | rfl <;> exact ⟨by decide, by decide, by decide, by decide, by decide⟩)
 ·rw [List.mem_singleton.1 hp]
  exact ⟨by decide, by decide, by decide, by decide, by decide⟩
theorem echo_tell {c : Int} (hc : c = 0 ∨ c = 1) {w : List Int} (hw : ∀ b ∈ w, 32 ≤ b ∧ b ≤ 255) (hl : w.length ≤ 64) :
  (Tell.tellB (textOf (echoL c (w ++ [10])))).2 = 0 ∧ (Tell.tellB (textOf (echoL c (w ++ [10])))).1.length = 5 * (w.length + 1) + 3 ∧
  (Tell.tellB (textOf (echoL c (w ++ [10])))).1.getD (5 * (w.length + 1) + 1) [] = [111, 107, 32] ++ Tell.hexL (w ++ [10]) := by
 have hr : ∀ b ∈ w ++ [10], 0 ≤ b ∧ b ≤ 255 := fun b hb => by
  rcases List.mem_append.1 hb with hb | hb
  ·have := hw b hb
   omega
  ·have := List.mem_singleton.1 hb
   omega
 have hp := parse_text (echoL c (w ++ [10])) (echo_ok hc hr)
 have hy := echo_ypl hc hw hl
 have han : Tell.ansB (textOf (echoL c (w ++ [10]))) = ([(0, [])] ++ ((w ++ [10]).map fun _ => none5).flatten) ++ [(0, w ++ [10])] := by
  unfold Tell.ansB Tell.opsB
  rw [hp]
  exact hy
 have hlen : (Tell.ansB (textOf (echoL c (w ++ [10])))).length = 5 * (w.length + 1) + 2 := by
  rw [han, List.length_append, List.length_append, flat5_len (fun _ => none5) (fun _ => rfl), List.length_append]
  simp only [List.length_cons, List.length_nil]
  omega
 have hops : Tell.opsB (textOf (echoL c (w ++ [10]))) = opsOf' (echoL c (w ++ [10])) := by
  unfold Tell.opsB
  rw [hp]
 have ht : Tell.tellB (textOf (echoL c (w ++ [10]))) = (Tell.linesA (opsOf' (echoL c (w ++ [10]))) (Tell.ansB (textOf (echoL c (w ++ [10])))) (5 * (w.length + 1) + 2) ++ [Tell.leftA (Tell.nums (Kern.yend (Kern.ypl (opsOf' (echoL c (w ++ [10])))).1)) 6], 0) := by
  unfold Tell.tellB
  rw [hlen, hops, if_neg (by rw [hp]; simp)]
 rw [ht]
 refine ⟨rfl, ?_, ?_⟩
 ·show (_ ++ _ : List (List Int)).length = _
  rw [List.length_append, Tell.linesA_len]
  rfl
 ·show (_ ++ _ : List (List Int)).getD _ [] = _
  have hll := Tell.linesA_len (opsOf' (echoL c (w ++ [10]))) (Tell.ansB (textOf (echoL c (w ++ [10])))) (5 * (w.length + 1) + 2)
  have hlt : 5 * (w.length + 1) + 1 < (Tell.linesA (opsOf' (echoL c (w ++ [10]))) (Tell.ansB (textOf (echoL c (w ++ [10])))) (5 * (w.length + 1) + 2)).length := by rw [hll]; omega
  rw [List.getD_eq_getElem?_getD, List.getElem?_append_left hlt]
  unfold Tell.linesA
  rw [List.getElem?_map, List.getElem?_range (by omega)]
  simp only [Option.map_some, Option.getD_some]
  have ho : (opsOf' (echoL c (w ++ [10]))).getD (5 * (w.length + 1) + 1) (0, 0, 0, 0) = Bench.mkO 3 100 := by
   unfold echoL
   rw [opsOf_app, List.getD_eq_getElem?_getD, List.getElem?_append_right (by rw [opsOf_len, List.length_append, flat5_len (five c) (fun _ => rfl), List.length_append]; simp only [List.length_cons, List.length_nil]; omega)]
   rw [opsOf_len, List.length_append, flat5_len (five c) (fun _ => rfl), List.length_append]
   simp only [List.length_cons, List.length_nil, Nat.zero_add]
   rw [show 5 * (w.length + 1) + 1 - (1 + 5 * (w.length + 1)) = 0 by omega]
   rfl
  have ha : (Tell.ansB (textOf (echoL c (w ++ [10])))).getD (5 * (w.length + 1) + 1) (0, []) = (0, w ++ [10]) := by
   rw [han, List.getD_eq_getElem?_getD, List.getElem?_append_right (by rw [List.length_append, flat5_len (fun _ => none5) (fun _ => rfl), List.length_append]; simp only [List.length_cons, List.length_nil]; omega)]
   rw [List.length_append, flat5_len (fun _ => none5) (fun _ => rfl), List.length_append]
   simp only [List.length_cons, List.length_nil, Nat.zero_add]
   rw [show 5 * (w.length + 1) + 1 - (1 + 5 * (w.length + 1)) = 0 by omega]
   rfl
  rw [ho, ha]
  have hne : ¬ w ++ [10] = [] := by simp
  unfold Tell.lineA Tell.hexB
  rw [if_neg (by simp), if_pos (by rfl), if_neg hne]

theorem textOf_app (a b : List (Int × Int)) : textOf (a ++ b) = textOf a ++ textOf b := by simp [textOf]
theorem dec100 : Bench.dec 100 = [49, 48, 48] := by
 unfold Bench.dec Bench.un8
 rw [show (100 : Int).toNat = 100 by rfl, Go.Lib.decDigits, dif_neg (by decide), Go.Lib.decDigits_two (by decide) (by decide)]
 rfl
theorem line_one (k n : Int) : textOf [(k, n)] = Bench.lineOf k n ++ [10] := by simp [textOf]
theorem line_move (c : Int) : textOf [(6, c)] = [109, 111, 118, 101, 32] ++ Bench.dec c ++ [10] := by
 rw [line_one]
 rfl
theorem line_run (c : Int) : textOf [(2, c)] = [114, 117, 110, 32] ++ Bench.dec c ++ [10] := by
 rw [line_one]
 rfl
theorem line_in (b : Int) : textOf [(1, b)] = [105, 110, 32] ++ Bench.dec b ++ [10] := by
 rw [line_one]
 rfl
theorem line_read : textOf [(3, 100)] = [114, 101, 97, 100, 32, 49, 48, 48, 10] := by
 rw [line_one]
 show Bench.wordAt 3 ++ ([32] ++ Bench.dec 100) ++ [10] = _
 rw [dec100]
 rfl
theorem line_five (c b : Int) : textOf (five c b) = ([105, 110, 32] ++ Bench.dec b ++ [10]) ++ (List.replicate (Int.toNat 4) ([114, 117, 110, 32] ++ Bench.dec c ++ [10])).flatten := by
 rw [← line_run]
 have e : five c b = [(1, b)] ++ ([(2, c)] ++ ([(2, c)] ++ ([(2, c)] ++ [(2, c)]))) := rfl
 rw [e, textOf_app, textOf_app, textOf_app, textOf_app, line_in]
 show _ = _ ++ (textOf [(2, c)] ++ (textOf [(2, c)] ++ (textOf [(2, c)] ++ (textOf [(2, c)] ++ []))))
 rw [List.append_nil]
theorem text_five (A : List (Int × Int)) (W : List Int) (c : Int) {k : Int} (h0 : 0 ≤ k) (h1 : k < W.length) :
  textOf (A ++ ((W.take (k + 1).toNat).map (five c)).flatten) = textOf (A ++ ((W.take k.toNat).map (five c)).flatten) ++ textOf (five c (W.getD k.toNat 0)) := by
 rw [Bench.takeI_succ 0 h0 h1, List.map_append, List.flatten_append, ← List.append_assoc, textOf_app]
 simp
theorem five_len {c b : Int} (hc : c = 0 ∨ c = 1) (hb : b ≤ 255) : (textOf (five c b)).length ≤ 48 := by
 have h1 := Bench.dec_len (n := b) (by omega)
 have h2 : (Bench.dec c).length = 1 := by rcases hc with rfl | rfl <;> rw [dec1 (by decide) (by decide)] <;> rfl
 rw [line_five]
 show (_ ++ (_ ++ (_ ++ (_ ++ (_ ++ []))))).length ≤ _
 simp only [List.length_append, List.length_cons, List.length_nil]
 omega
theorem fives_len {c : Int} (hc : c = 0 ∨ c = 1) : ∀ (l : List Int), (∀ b ∈ l, 0 ≤ b ∧ b ≤ 255) → (textOf ((l.map (five c)).flatten)).length ≤ 48 * l.length
 | [], _ => Nat.le_refl _
 | b :: l, h => by
  have h1 := five_len hc (h b (by simp)).2
  have h2 := fives_len hc l (fun x hx => h x (List.mem_cons_of_mem _ hx))
  rw [List.map_cons, List.flatten_cons, textOf_app, List.length_append, List.length_cons]
  omega
theorem hex2 {b : Int} (h0 : 0 ≤ b) (h1 : b ≤ 255) : (List.replicate ((2 : Int) - ((hexN b).length : Int)).toNat [48]).flatten ++ hexN b = [Tell.hexd (b / 16), Tell.hexd (b % 16)] ∧ ((hexN b).length = 1 ∨ (hexN b).length = 2) := by
 by_cases h : b < 16
 ·have e : hexN b = [Tell.hexd b] := by unfold hexN; rw [if_pos h]
  rw [e, show b / 16 = 0 by omega, show b % 16 = b by omega]
  exact ⟨rfl, .inl rfl⟩
 ·have e : hexN b = [Tell.hexd (b / 16), Tell.hexd (b % 16)] := by unfold hexN; rw [if_neg h]
  rw [e]
  exact ⟨rfl, .inr rfl⟩
theorem hexL_snoc (l : List Int) (b : Int) : Tell.hexL (l ++ [b]) = Tell.hexL l ++ [Tell.hexd (b / 16), Tell.hexd (b % 16)] := by
 unfold Tell.hexL
 simp
theorem rep_run {c : Int} (hc : c = 0 ∨ c = 1) : repOk ([114, 117, 110, 32] ++ Bench.dec c ++ [10]) 4 := by
 rcases hc with rfl | rfl
 ·rw [dec1 (by decide) (by decide)]
  exact .inl ⟨rfl, .inl rfl⟩
 ·rw [dec1 (by decide) (by decide)]
  exact .inl ⟨rfl, .inr rfl⟩
theorem echo_mem {w : List Int} (hw : ∀ b ∈ w, (0 : Int) ≤ b ∧ b ≤ 255) : ∀ b ∈ w ++ [10], (0 : Int) ≤ b ∧ b ≤ 255 := fun b hb => by
 rcases List.mem_append.1 hb with hb | hb
 ·exact hw b hb
 ·have := List.mem_singleton.1 hb
  omega
theorem echo_take {w : List Int} {k : Int} (h0 : 0 ≤ k) (h1 : k < w.length + 1) (h : ∀ b ∈ w.take k.toNat, 32 ≤ b) (hd : decide ((w ++ [10]).getD k.toNat 0 < 32) = false ∨ ¬ k < w.length) : ∀ b ∈ w.take (k + 1).toNat, (32 : Int) ≤ b := by
 by_cases hk : k < w.length
 ·have hd := of_decide_eq_false (hd.resolve_right (fun h => h hk))
  have e : (w ++ [10]).getD k.toNat 0 = w.getD k.toNat 0 := by
   rw [List.getD_eq_getElem?_getD, List.getElem?_append_left (by omega), ← List.getD_eq_getElem?_getD]
  rw [e] at hd
  rw [Bench.takeI_succ 0 h0 hk]
  intro b hb
  rcases List.mem_append.1 hb with hb | hb
  ·exact h b hb
  ·rw [List.mem_singleton.1 hb]
   omega
 ·rw [Bench.takeI_all (by omega)]
  rwa [Bench.takeI_all (by omega)] at h
theorem e_echo (x : List Int × Int × Unit) (_ : True) (hl : LensL cEcho.as x) : E_echo x := by
 obtain ⟨w, c, u⟩ := x
 have hlw : w.length ≤ 9223372036854775807 := hl.1.1
 have hw : ∀ b ∈ w, (0 : Int) ≤ b ∧ b ≤ 255 := hl.1.2
 unfold E_echo
 delta qecho_2 qecho_6 qecho_9 qecho_10 qecho_11 qecho_13 qecho_14 qecho_15 qecho_16 qecho_18 qecho_19 qecho_3 qecho_7 qecho_8 qecho_17 qecho_1 qecho_4 qecho_5 qecho_12
 simp only [pair_eta]
 simp (maxSteps := 10000000) only [Bool.not_eq_true', Bool.not_eq_false', Bool.not_eq_true, Bool.not_eq_false, beq_self_eq_true, decide_eq_true_eq, decide_eq_false_iff_not, Bool.not_false, Bool.not_true, beq_iff_eq, beq_eq_false_iff_ne, bne_iff_ne, ne_eq, bne_eq_false_iff_eq, holds_iff, true_and, and_true, and_self, eq_self, List.length_cons, List.length_nil, List.length_append, List.length_set, List.length_replicate, List.set_cons_zero, cond_true, cond_false, Bool.false_eq_true, Bool.true_eq_false, forall_const, false_imp_iff, imp_self, implies_true, and_imp, Decidable.not_not, Bool.and_eq_true, Bool.or_eq_true, Bool.and_eq_false_iff, Bool.or_eq_false_iff, ← List.length_eq_zero_iff, or_self, or_false, false_or, Prod.forall, Int.reduceEq, Int.reduceLT, Int.reduceLE, List.nil_append, Nat.zero_add, Int.toNat_zero, List.drop_zero, List.length_drop, List.length_take, not_true_eq_false, not_false_eq_true,  RR_eq, pair_eta]
 intro n0 n1 c0 c1
 have n0 : ¬ (w.length : Int) = 0 := n0
 have n1 : ¬ (64 : Int) < (w.length : Int) := n1
 have c0 : ¬ c < (0 : Int) := c0
 have c1 : ¬ (2 : Int) ≤ c := c1
 have hc : c = 0 ∨ c = 1 := by omega
 have hdc : (Bench.dec c).length = 1 := by rcases hc with rfl | rfl <;> rw [dec1 (by decide) (by decide)] <;> rfl
 refine ⟨by omega, by omega, by omega, by omega, ⟨by omega, by omega⟩, ⟨by omega, fun b hb => (by cases hb), ?_, rfl⟩, ?_⟩
 ·rw [List.take_zero, List.map_nil, List.flatten_nil, List.append_nil, line_move]
 intro t q k _ k0 k1 hk ht hq _ _ _ _ _ _
 have k0 : (0 : Int) ≤ k := k0
 have k1 : k ≤ (w.length : Int) + 1 := k1
 have hm := echo_mem hw
 have hWl : ((w ++ [10]).length : Int) = w.length + 1 := by rw [List.length_append]; rfl
 have hql : q.length = 3 + 2 * ((w ++ [10]).take k.toNat).length := by
  rw [hq, List.length_append, Tell.hexL_len]
  rfl
 have htl : t.length ≤ 7 + 48 * ((w ++ [10]).take k.toNat).length := by
  have := fives_len hc ((w ++ [10]).take k.toNat) (fun b hb => hm b (List.mem_of_mem_take hb))
  rw [ht, textOf_app, List.length_append, line_move]
  simp only [List.length_append, List.length_cons, List.length_nil]
  omega
 have htk : ((w ++ [10]).take k.toNat).length ≤ 65 := by rw [List.length_take, List.length_append, List.length_singleton]; omega
 refine ⟨fun h => ?_, fun h => ?_⟩
 ·have h : k < (w.length : Int) + 1 := h
  have hb := hm _ (Tell.mem_getD 0 k0 (show k < ((w ++ [10]).length : Int) by omega))
  have h5 := five_len hc hb.2
  have hx := hex2 hb.1 hb.2
  have hdb := Bench.dec_len (n := (w ++ [10]).getD k.toNat 0) (by omega)
  rw [line_five] at h5
  have hr : (List.replicate (Int.toNat 4) ([114, 117, 110, 32] ++ Bench.dec c ++ [10])).flatten.length ≤ 48 := by
   rw [List.length_append] at h5
   omega
  have hr2 : (List.replicate ((2 : Int) - ((hexN ((w ++ [10]).getD k.toNat 0)).length : Int)).toNat [(48 : Int)]).flatten.length ≤ 1 := by
   rcases hx.2 with e | e <;> rw [e] <;> decide
  refine ⟨⟨k0, h⟩, fun hd => ⟨⟨by omega, by omega⟩, hb.1, by omega, by omega, by omega, by omega, by omega, rep_run hc, by omega, by omega, ⟨by omega, by omega⟩, hb, ⟨by omega, by omega⟩, ?_, by omega, by omega, ⟨by omega, by omega⟩,
   ⟨by omega, by omega, echo_take k0 h hk hd, ?_, ?_⟩, by omega⟩⟩
  ·rcases hx.2 with e | e <;> rw [e]
   ·exact .inr ⟨rfl, .inr rfl⟩
   ·exact .inr ⟨rfl, .inl rfl⟩
  ·rw [text_five _ _ _ k0 (by omega), line_five, ← ht]
  ·rw [Bench.takeI_succ 0 k0 (show k < ((w ++ [10]).length : Int) by omega), hexL_snoc, hx.1, hq, List.append_assoc]
 ·have h : ¬ k < (w.length : Int) + 1 := h
  rw [Bench.takeI_all (by omega)] at ht hq
  rw [Bench.takeI_all (by omega)] at hk
  have hT : t ++ [114, 101, 97, 100, 32, 49, 48, 48, 10] = textOf (echoL c (w ++ [10])) := by
   rw [ht, ← line_read, ← textOf_app]
   rfl
  obtain ⟨t1, t2, t3⟩ := echo_tell hc (w := w) (fun b hb => ⟨hk b hb, (hw b hb).2⟩) (by omega)
  rw [← hT] at t1 t2 t3
  have t2' : ((Tell.tellB (t ++ [114, 101, 97, 100, 32, 49, 48, 48, 10])).1.length : Int) = 5 * (w.length + 1) + 3 := by omega
  refine ⟨by omega, by omega, fun _ _ => ⟨⟨t1, by omega⟩, by omega, by omega⟩, fun _ _ => ⟨⟨t1, by omega⟩, by omega, by omega⟩, ⟨t1, by omega⟩, ?_⟩
  rw [show (((Tell.tellB (t ++ [114, 101, 97, 100, 32, 49, 48, 48, 10])).1.length : Int) - 2).toNat = 5 * (w.length + 1) + 1 by omega, t3, hq]

end Go.Proofs.YtdhldloajddfiaaGreatDoor.Top
