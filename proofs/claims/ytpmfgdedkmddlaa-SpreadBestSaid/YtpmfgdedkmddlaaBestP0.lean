/-
  SpreadBest: the plain law: trying the cores up to the first that has nothing comes to the least of all plans.
-/
import Derived.Test.YtpmfgdedkmddlaaBestE
namespace Go.Proofs.Ytpmfgdedkmddlaa.Best
open Go.Sx
set_option maxRecDepth 100000
set_option maxHeartbeats 1000000
set_option linter.unusedSimpArgs false
set_option linter.unusedVariables false

theorem le_foldmax {z : Int} : ∀ (r : List Int) (a : Int), z ≤ r.foldl max a ↔ z ≤ a ∨ ∃ x ∈ r, z ≤ x
  | [], a => by simp
  | b :: r, a => by
    rw [List.foldl_cons, le_foldmax r (max a b)]
    simp only [List.mem_cons, exists_eq_or_imp]
    have : z ≤ max a b ↔ z ≤ a ∨ z ≤ b := by omega
    rw [this, or_assoc]
theorem le_mx {l : List Int} (h : 0 < l.length) {z : Int} : z ≤ mx l ↔ ∃ i : Nat, i < l.length ∧ z ≤ l.getD i 0 := by
  cases l with
  | nil => simp at h
  | cons a r =>
    show z ≤ r.foldl max a ↔ _
    rw [le_foldmax]
    constructor
    · rintro (h | ⟨x, hx, h⟩)
      · exact ⟨0, by simp, h⟩
      · obtain ⟨i, hi, rfl⟩ := List.mem_iff_getElem.1 hx
        exact ⟨i + 1, by simpa using hi, by simpa [List.getD, hi] using h⟩
    · rintro ⟨i, hi, h⟩
      cases i with
      | zero => exact .inl h
      | succ i =>
        have hi : i < r.length := by simpa using hi
        refine .inr ⟨r[i], List.getElem_mem hi, ?_⟩
        simpa [List.getD, hi] using h
theorem add_len (l : List Int) (c : Nat) (w : Int) : (addAt l c w).length = l.length := by simp [addAt]
theorem add_get {l : List Int} {c : Nat} {w : Int} (i : Nat) (h : c < l.length) : (addAt l c w).getD i 0 = if i = c then l.getD c 0 + w else l.getD i 0 := by
  unfold addAt
  by_cases e : i = c
  · subst e; simp [List.getD, h]
  · rw [if_neg e]
    simp only [List.getD, List.getElem?_set_ne (Ne.symm e)]
theorem get_ext {l m : List Int} (hl : l.length = m.length) (h : ∀ j : Nat, j < l.length → l.getD j 0 = m.getD j 0) : l = m := by
  apply List.ext_getElem hl
  intro j h1 h2
  have := h j h1
  simpa [List.getD, h1, h2] using this
def app (has : List Int) : List Int → List Nat → List Int
  | w :: ws, c :: cs => app (addAt has c w) ws cs
  | _, _ => has
def Val (m : Nat) (ws : List Int) (js : List Nat) : Prop := js.length = ws.length ∧ ∀ c ∈ js, c < m
def zs (has : List Int) : Prop := ∀ i j : Nat, i < j → j < has.length → has.getD i 0 = 0 → has.getD j 0 = 0
theorem app_len : ∀ (ws : List Int) (js : List Nat) (has : List Int), (app has ws js).length = has.length
  | [], _, _ => by unfold app; rfl
  | _ :: _, [], _ => by unfold app; rfl
  | w :: ws, c :: cs, has => by rw [app, app_len ws cs, add_len]
theorem app_mono : ∀ (ws : List Int) (js : List Nat) (has : List Int), (∀ w ∈ ws, 0 ≤ w) → (∀ c ∈ js, c < has.length) → ∀ i, has.getD i 0 ≤ (app has ws js).getD i 0
  | [], _, _, _, _, i => by unfold app; exact Int.le_refl _
  | _ :: _, [], _, _, _, i => by unfold app; exact Int.le_refl _
  | w :: ws, c :: cs, has, hw, hc, i => by
    have h1 := app_mono ws cs (addAt has c w) (fun x hx => hw x (by simp [hx])) (fun x hx => by rw [add_len]; exact hc x (by simp [hx])) i
    have h2 := add_get (w := w) i (hc c (by simp))
    have h3 := hw w (by simp)
    rw [app]
    refine Int.le_trans ?_ h1
    rw [h2]
    split
    · rename_i e; subst e; omega
    · exact Int.le_refl _
theorem mx_mono {l m : List Int} (hl : 0 < l.length) (he : m.length = l.length) (h : ∀ i, l.getD i 0 ≤ m.getD i 0) {z : Int} (hz : z ≤ mx l) : z ≤ mx m := by
  obtain ⟨i, hi, h1⟩ := (le_mx hl).1 hz
  exact (le_mx (by omega)).2 ⟨i, by omega, Int.le_trans h1 (h i)⟩
def upTo (has : List Int) : List Nat → List Nat
  | [] => []
  | c :: cs => if has.getD c 0 = 0 then [c] else c :: upTo has cs
theorem loop_iff {rec : List Int → Int → Int} {has : List Int} {w z : Int} {R : Nat → Prop} : ∀ (cs : List Nat) (b : Int), (∀ c ∈ upTo has cs, ∀ b, z ≤ rec (addAt has c w) b ↔ z ≤ b ∧ R c) →
    (z ≤ loopL rec has w cs b ↔ z ≤ b ∧ ∀ c ∈ upTo has cs, R c)
  | [], b, _ => by simp [loopL, upTo]
  | c :: cs, b, h => by
    unfold loopL upTo
    by_cases e : has.getD c 0 = 0
    · rw [if_pos e, if_pos e]
      rw [h c (by unfold upTo; rw [if_pos e]; simp) b]
      simp
    · rw [if_neg e, if_neg e]
      rw [loop_iff cs _ (fun c' hc' => h c' (by unfold upTo; rw [if_neg e]; simp [hc'])), h c (by unfold upTo; rw [if_neg e]; simp) b]
      simp only [List.mem_cons, forall_eq_or_imp, and_assoc]
theorem upTo_mem {has : List Int} : ∀ (n s c : Nat), c ∈ upTo has (List.range' s n) ↔ (s ≤ c ∧ c < s + n) ∧ ∀ c', s ≤ c' → c' < c → has.getD c' 0 ≠ 0
  | 0, s, c => by simp [upTo]; omega
  | n + 1, s, c => by
    rw [List.range'_succ]
    unfold upTo
    by_cases e : has.getD s 0 = 0
    · rw [if_pos e]
      simp only [List.mem_singleton]
      constructor
      · rintro rfl; exact ⟨by omega, fun c' h1 h2 => by omega⟩
      · rintro ⟨h1, h2⟩
        by_cases h : c = s
        · exact h
        · exact absurd e (h2 s (Nat.le_refl _) (by omega))
    · rw [if_neg e, List.mem_cons, upTo_mem n (s + 1) c]
      constructor
      · rintro (rfl | ⟨h1, h2⟩)
        · exact ⟨by omega, fun c' h1 h2 => by omega⟩
        · refine ⟨by omega, fun c' g1 g2 => ?_⟩
          by_cases h : c' = s
          · rw [h]; exact e
          · exact h2 c' (by omega) g2
      · rintro ⟨h1, h2⟩
        by_cases h : c = s
        · exact .inl h
        · exact .inr ⟨by omega, fun c' g1 g2 => h2 c' (by omega) g2⟩
def sw (a b i : Nat) : Nat := if i = a then b else if i = b then a else i
theorem sw_lt {a b i n : Nat} (ha : a < n) (hb : b < n) (hi : i < n) : sw a b i < n := by unfold sw; split <;> (try split) <;> omega
theorem sw_sw (a b i : Nat) : sw a b (sw a b i) = i := by unfold sw; grind
/- Two lists are the same but for the order of two places. -/
def Sw (a b : Nat) (l m : List Int) : Prop := m.length = l.length ∧ ∀ i, i < l.length → m.getD i 0 = l.getD (sw a b i) 0
theorem Sw_add {a b : Nat} {l m : List Int} (h : Sw a b l m) (ha : a < l.length) (hb : b < l.length) {c : Nat} (hc : c < l.length) (w : Int) : Sw a b (addAt l c w) (addAt m (sw a b c) w) := by
  refine ⟨by rw [add_len, add_len, h.1], fun i hi => ?_⟩
  rw [add_len] at hi
  have hsc := sw_lt ha hb hc
  rw [add_get _ (by rw [h.1]; exact hsc), add_get _ hc, h.2 _ hsc, sw_sw, h.2 i hi]
  by_cases e : i = sw a b c
  · rw [if_pos e, e, sw_sw, if_pos rfl]
  · rw [if_neg e, if_neg (fun e2 => e (by rw [← e2, sw_sw]))]
theorem Sw_app {a b : Nat} : ∀ {ws : List Int} {js : List Nat} {l m : List Int}, Sw a b l m → a < l.length → b < l.length → (∀ c ∈ js, c < l.length) → Sw a b (app l ws js) (app m ws (js.map (sw a b)))
  | [], js, l, m, h, _, _, _ => by cases js <;> exact h
  | _ :: _, [], l, m, h, _, _, _ => h
  | w :: ws, c :: cs, l, m, h, ha, hb, hc => by
    rw [List.map_cons, app, app]
    exact Sw_app (Sw_add h ha hb (hc c (by simp)) w) (by rw [add_len]; exact ha) (by rw [add_len]; exact hb) (fun x hx => by rw [add_len]; exact hc x (by simp [hx]))
theorem Sw_mx {a b : Nat} {l m : List Int} (h : Sw a b l m) (ha : a < l.length) (hb : b < l.length) {z : Int} (hz : z ≤ mx m) : z ≤ mx l := by
  have hl : 0 < l.length := by omega
  obtain ⟨i, hi, h1⟩ := (le_mx (by rw [h.1]; exact hl)).1 hz
  rw [h.1] at hi
  rw [h.2 i hi] at h1
  exact (le_mx hl).2 ⟨_, sw_lt ha hb hi, h1⟩
theorem put_iff {z : Int} : ∀ (ws has : List Int) (b : Int), 0 < has.length → (∀ w ∈ ws, 0 ≤ w) → (∀ i, 0 ≤ has.getD i 0) → zs has → (z ≤ putL ws has b ↔ z ≤ b ∧ ∀ js, Val has.length ws js → z ≤ mx (app has ws js))
  | [], has, b, hl, _, _, _ => by
    unfold putL
    have : (z ≤ if b ≤ mx has then b else mx has) ↔ z ≤ b ∧ z ≤ mx has := by split <;> omega
    rw [this]
    refine ⟨fun h => ⟨h.1, fun js _ => ?_⟩, fun h => ⟨h.1, ?_⟩⟩
    · unfold app; cases js <;> exact h.2
    · have := h.2 [] ⟨rfl, fun c hc => by cases hc⟩
      unfold app at this; exact this
  | w :: ws, has, b, hl, hw, hh, hz => by
    unfold putL
    by_cases hb : b ≤ mx has
    · rw [if_pos hb]
      exact ⟨fun h => ⟨h, fun js ha => mx_mono hl (app_len _ _ _) (app_mono _ _ _ hw ha.2) (Int.le_trans h hb)⟩, fun h => h.1⟩
    · rw [if_neg hb]
      have key : ∀ c, c ∈ upTo has (List.range has.length) ↔ c < has.length ∧ ∀ c', c' < c → has.getD c' 0 ≠ 0 := fun c => by
        rw [List.range_eq_range', upTo_mem]
        exact ⟨fun h => ⟨by omega, fun c' h' => h.2 c' (by omega) h'⟩, fun h => ⟨by omega, fun c' _ h' => h.2 c' h'⟩⟩
      rw [loop_iff (R := fun c => ∀ js, Val has.length ws js → z ≤ mx (app (addAt has c w) ws js)) (List.range has.length) b (fun c hc b => ?_)]
      · refine and_congr_right fun hzb => ⟨fun h js ha => ?_, fun h c hc js ha => ?_⟩
        · obtain ⟨h1, h2⟩ := ha
          match js, h1, h2 with
          | c :: js, h1, h2 =>
            have hva : Val has.length ws js := ⟨by simpa using h1, fun x hx => h2 x (by simp [hx])⟩
            have hc : c < has.length := h2 c (by simp)
            rw [app]
            by_cases hcu : ∀ c', c' < c → has.getD c' 0 ≠ 0
            · exact h c ((key c).2 ⟨hc, hcu⟩) js hva
            · -- the first that has nothing
              have hex : ∃ c0, c0 < c ∧ has.getD c0 0 = 0 ∧ ∀ c', c' < c0 → has.getD c' 0 ≠ 0 := by
                clear h hva h1 h2
                have : ∃ c', c' < c ∧ has.getD c' 0 = 0 := by
                  apply Classical.byContradiction
                  intro hn
                  exact hcu fun c' h' e => hn ⟨c', h', e⟩
                obtain ⟨c', h1, h2⟩ := this
                induction c' using Nat.strongRecOn with
                | ind c' ih =>
                  by_cases hq : ∃ c2, c2 < c' ∧ has.getD c2 0 = 0
                  · obtain ⟨c2, g1, g2⟩ := hq
                    exact ih c2 g1 (by omega) g2
                  · exact ⟨c', h1, h2, fun c2 g e => hq ⟨c2, g, e⟩⟩
              obtain ⟨c0, g1, g2, g3⟩ := hex
              have hc0 : c0 < has.length := by omega
              have hcz : has.getD c 0 = 0 := hz c0 c g1 hc g2
              have hS : Sw c0 c (addAt has c w) (addAt has c0 w) := by
                refine ⟨by rw [add_len, add_len], fun i hi => ?_⟩
                rw [add_len] at hi
                rw [add_get _ hc0, add_get _ hc, g2, hcz]
                unfold sw
                grind
              have hS2 := Sw_app hS (ws := ws) (js := js) (by rw [add_len]; exact hc0) (by rw [add_len]; exact hc) (fun x hx => by rw [add_len]; exact hva.2 x hx)
              refine Sw_mx hS2 (by rw [app_len, add_len]; exact hc0) (by rw [app_len, add_len]; exact hc) ?_
              refine h c0 ((key c0).2 ⟨hc0, g3⟩) _ ⟨by rw [List.length_map]; exact hva.1, fun x hx => ?_⟩
              obtain ⟨y, hy, rfl⟩ := List.mem_map.1 hx
              exact sw_lt hc0 hc (hva.2 y hy)
        · have := h (c :: js) ⟨by simp [ha.1], fun x hx => by
            rcases List.mem_cons.1 hx with rfl | hx
            · exact ((key _).1 hc).1
            · exact ha.2 x hx⟩
          rw [app] at this; exact this
      · obtain ⟨hc1, hc2⟩ := (key c).1 hc
        have hw0 := hw w (by simp)
        rw [put_iff ws (addAt has c w) b (by rw [add_len]; exact hl) (fun x hx => hw x (by simp [hx])) (fun i => ?_) (fun i j hij hj hi => ?_), add_len]
        · rw [add_get _ hc1]
          have h1 := hh i
          have h2 := hh c
          split <;> omega
        · rw [add_len] at hj
          rw [add_get _ hc1] at hi ⊢
          have h2 := hh c
          by_cases e : i = c
          · subst e
            rw [if_pos rfl] at hi
            rw [if_neg (by omega)]
            exact hz i j hij hj (by omega)
          · rw [if_neg e] at hi
            have hci : c < i := by
              rcases Nat.lt_or_ge i c with h | h
              · exact absurd hi (hc2 i h)
              · omega
            rw [if_neg (by omega)]
            exact hz i j hij hj hi
def digs (m : Int) : List Int → Int → List Nat
  | [], _ => []
  | _ :: ws, n => (n % m).toNat :: digs m ws (n / m)
theorem spread_app (m : Int) : ∀ (ws : List Int) (n : Int) (has : List Int), spreadN m ws n has = app has ws (digs m ws n)
  | [], _, _ => rfl
  | w :: ws, n, has => by rw [spreadN, digs, app, spread_app m ws]
theorem digs_val {m : Int} (hm : 1 ≤ m) : ∀ (ws : List Int) (n : Int), 0 ≤ n → Val m.toNat ws (digs m ws n)
  | [], _, _ => ⟨rfl, fun c hc => by cases hc⟩
  | w :: ws, n, hn => by
    obtain ⟨h1, h2⟩ := digs_val hm ws (n / m) (Int.ediv_nonneg hn (by omega))
    refine ⟨by simp [digs, h1], fun c hc => ?_⟩
    rcases List.mem_cons.1 hc with rfl | hc
    · have := Int.emod_nonneg n (show m ≠ 0 by omega)
      have := Int.emod_lt_of_pos n (show 0 < m by omega)
      omega
    · exact h2 c hc
theorem digs_sur {m : Int} (hm : 1 ≤ m) : ∀ (ws : List Int) (js : List Nat), Val m.toNat ws js → ∃ n, 0 ≤ n ∧ n < m ^ ws.length ∧ digs m ws n = js
  | [], [], _ => ⟨0, by omega, by simp, rfl⟩
  | w :: ws, c :: cs, h => by
    obtain ⟨n, h1, h2, h3⟩ := digs_sur hm ws cs ⟨by simpa using h.1, fun x hx => h.2 x (by simp [hx])⟩
    have hc := h.2 c (by simp)
    have hp : 0 ≤ m * n := Int.mul_nonneg (by omega) h1
    have hq : m * (n + 1) ≤ m * m ^ ws.length := Int.mul_le_mul_of_nonneg_left (by omega) (by omega)
    rw [Int.mul_add, Int.mul_one] at hq
    refine ⟨c + m * n, by omega, ?_, ?_⟩
    · rw [List.length_cons, Int.pow_succ, Int.mul_comm (m ^ ws.length) m]
      omega
    · rw [digs]
      have e1 : (c + m * n) % m = c := by rw [Int.add_mul_emod_self_left]; exact Int.emod_eq_of_lt (by omega) (by omega)
      have e2 : (c + m * n) / m = n := by
        rw [Int.add_mul_ediv_left _ _ (by omega), Int.ediv_eq_zero_of_lt (by omega) (by omega)]; omega
      rw [e1, e2, h3]
      simp
  | [], _ :: _, h => by simp [Val] at h
  | _ :: _, [], h => by simp [Val] at h
theorem eall_succ {l : List Int} {m k : Int} (hk : 0 ≤ k) : eall l m (k + 1) = min (eall l m k) (mx (spreadN m l k (List.replicate m.toNat 0))) := by
  unfold eall
  rw [show (k + 1).toNat = k.toNat + 1 by omega, List.range_succ, List.foldl_append]
  simp only [List.foldl_cons, List.foldl_nil]
  rw [Int.toNat_of_nonneg hk]
theorem eall_iff {l : List Int} {m z : Int} : ∀ k : Nat, z ≤ eall l m k ↔ z ≤ 4611686018427387904 ∧ ∀ n : Int, 0 ≤ n → n < k → z ≤ mx (spreadN m l n (List.replicate m.toNat 0))
  | 0 => by
    show z ≤ 4611686018427387904 ↔ _
    exact ⟨fun h => ⟨h, fun n h1 h2 => by omega⟩, fun h => h.1⟩
  | k + 1 => by
    have := eall_succ (l := l) (m := m) (k := (k : Int)) (by omega)
    rw [show ((k + 1 : Nat) : Int) = (k : Int) + 1 by omega, this]
    have h2 : z ≤ min (eall l m k) (mx (spreadN m l k (List.replicate m.toNat 0))) ↔ z ≤ eall l m k ∧ z ≤ mx (spreadN m l k (List.replicate m.toNat 0)) := by omega
    rw [h2, eall_iff k]
    refine ⟨fun h => ⟨h.1.1, fun n h1 h3 => ?_⟩, fun h => ⟨⟨h.1, fun n h1 h3 => h.2 n h1 (by omega)⟩, h.2 k (by omega) (by omega)⟩⟩
    by_cases e : n = k
    · rw [e]; exact h.2
    · exact h.1.2 n h1 (by omega)
theorem rep_get' (n i : Nat) : (List.replicate n (0 : Int)).getD i 0 = 0 := by
  rw [List.getD, List.getElem?_replicate]
  split <;> rfl
theorem best_eq {l : List Int} {m : Int} (hm : 1 ≤ m) (hl : ∀ w ∈ l, 0 ≤ w) : putL l (List.replicate m.toNat 0) 4611686018427387904 = ebest l m := by
  have hr : ∀ i, (List.replicate m.toNat (0 : Int)).getD i 0 = 0 := rep_get' _
  have hp : 0 ≤ m ^ l.length := Int.pow_nonneg (by omega)
  have key : ∀ z : Int, z ≤ putL l (List.replicate m.toNat 0) 4611686018427387904 ↔ z ≤ ebest l m := fun z => by
    rw [put_iff l _ _ (by simp; omega) hl (fun i => by rw [hr]; exact Int.le_refl _) (fun i j _ _ _ => hr j)]
    unfold ebest
    have he := eall_iff (l := l) (m := m) (z := z) (m ^ l.length).toNat
    rw [Int.toNat_of_nonneg hp] at he
    rw [he, List.length_replicate]
    refine and_congr_right fun _ => ⟨fun h n h1 h2 => ?_, fun h js ha => ?_⟩
    · rw [spread_app]; exact h _ (digs_val hm l n h1)
    · obtain ⟨n, h1, h2, h3⟩ := digs_sur hm l js ha
      have := h n h1 h2
      rw [spread_app, h3] at this; exact this
  have h1 := (key _).1 (Int.le_refl _)
  have h2 := (key _).2 (Int.le_refl _)
  omega

end Go.Proofs.Ytpmfgdedkmddlaa.Best
