/-
  RunqPlays: the queue in memory is the list, step by step.
-/
import Derived.Test.YtpmfgdedkmddlaaRunqP3
namespace Go.Proofs.Ytpmfgdedkmddlaa.Runq
open Go.Sx
set_option maxRecDepth 100000
set_option maxHeartbeats 1000000
set_option linter.unusedSimpArgs false
set_option linter.unusedVariables false

theorem mem_ids {l : QL} {x : Int} : x ∈ ids l ↔ ∃ e ∈ l, e.1 = x := by unfold ids; exact List.mem_map
def atL (l : QL) (lev : Int) : QL := l.filter fun e => decide (e.2 = lev)
theorem mem_atL {l : QL} {lev : Int} {e : Int × Int} : e ∈ atL l lev ↔ e ∈ l ∧ e.2 = lev := by unfold atL; simp [List.mem_filter]
theorem RQ_lvl {q : QM} {l : QL} (h : RQ q l) {lev : Int} (h0 : 0 ≤ lev) (h1 : lev < 32) : lvl q lev = ids (atL l lev) := by
  have := (h.2.2.2.2.1 lev.toNat (by omega)).1
  rw [Int.toNat_of_nonneg h0] at this
  exact this
theorem RQ_bit {q : QM} {l : QL} (h : RQ q l) {lev : Int} (h0 : 0 ≤ lev) (h1 : lev < 32) : q.1.toNat.testBit lev.toNat = true ↔ atL l lev ≠ [] := by
  rw [(h.2.2.2.2.1 lev.toNat (by omega)).2]
  have := RQ_lvl h h0 h1
  unfold lvl at this
  rw [this]
  unfold ids
  simp
theorem lvl_len {q : QM} {l : QL} (h : RQ q l) {lev : Int} (h0 : 0 ≤ lev) (h1 : lev < 32) : (lvl q lev).length ≤ l.length := by
  rw [RQ_lvl h h0 h1]
  unfold ids atL
  rw [List.length_map]
  exact List.length_filter_le _ _
/- One is put in. -/
theorem tk_eq {l : QL} {o : RO} : l.take (inQ l o) = l.takeWhile (bef o) := by
  have h := List.takeWhile_append_dropWhile (p := bef o) (l := l)
  have h2 : ∀ t : QL, (bef o) = (bef o) → t = l.takeWhile (bef o) → (t ++ l.dropWhile (bef o)).take t.length = t := fun t _ _ => List.take_left
  have := h2 _ rfl rfl
  rw [h] at this
  exact this
theorem tk_bef {l : QL} {o : RO} {e : Int × Int} (h : e ∈ l.take (inQ l o)) : bef o e = true := by
  rw [tk_eq] at h
  exact List.all_eq_true.1 (List.all_takeWhile (l := l) (p := bef o)) e h
theorem dr_bef {l : QL} {o : RO} (hs : l.Pairwise fun a b => b.2 ≤ a.2) {e : Int × Int} (h : e ∈ l.drop (inQ l o)) : e.2 ≤ o.2.2 ∧ (o.1 = 1 → e.2 < o.2.2) := by
  rcases Nat.lt_or_ge (inQ l o) l.length with g | g
  · have hb := inQ_get g
    have he : l.getD (inQ l o) (0, 0) = l[inQ l o] := by simp [List.getD, g]
    rw [he, Bool.eq_false_iff, Ne, bef_iff, not_or, not_and] at hb
    have hd := List.drop_eq_getElem_cons g
    have hp : (l.drop (inQ l o)).Pairwise fun a b => b.2 ≤ a.2 := hs.sublist (List.drop_sublist _ _)
    rw [hd] at h hp
    have hle : e.2 ≤ (l[inQ l o]).2 := by
      rcases List.mem_cons.1 h with e1 | e1
      · rw [e1]; exact Int.le_refl _
      · exact (List.pairwise_cons.1 hp).1 e e1
    refine ⟨by omega, fun h1 => ?_⟩
    have := hb.2 h1
    omega
  · rw [List.drop_eq_nil_of_le g] at h
    cases h
theorem at_split (l : QL) (p : Nat) (lev : Int) : atL l lev = atL (l.take p) lev ++ atL (l.drop p) lev := by
  unfold atL
  rw [← List.filter_append, List.take_append_drop]
theorem at_ins (l : QL) (p : Nat) (x : Int × Int) (lev : Int) : atL (l.take p ++ x :: l.drop p) lev = atL (l.take p) lev ++ ((if x.2 = lev then [x] else []) ++ atL (l.drop p) lev) := by
  unfold atL
  rw [List.filter_append, List.filter_cons]
  by_cases h : x.2 = lev <;> simp [h]
theorem at_none {l : QL} {lev : Int} (h : ∀ e ∈ l, e.2 ≠ lev) : atL l lev = [] := by
  unfold atL
  rw [List.filter_eq_nil_iff]
  exact fun e he => by simpa using h e he
theorem ins_ids {l : QL} {p : Nat} {x : Int × Int} {y : Int} : y ∈ ids (l.take p ++ x :: l.drop p) ↔ y = x.1 ∨ y ∈ ids l := by
  unfold ids
  rw [List.map_append, List.map_cons, List.mem_append, List.mem_cons]
  conv => rhs; rhs; rw [← List.take_append_drop p l, List.map_append, List.mem_append]
  constructor
  · rintro (h | h | h)
    · exact .inr (.inl h)
    · exact .inl h
    · exact .inr (.inr h)
  · rintro (h | h | h)
    · exact .inr (.inl h)
    · exact .inl h
    · exact .inr (.inr h)
theorem ins_mem {l : QL} {p : Nat} {x e : Int × Int} : e ∈ l.take p ++ x :: l.drop p ↔ e = x ∨ e ∈ l := by
  rw [List.mem_append, List.mem_cons]
  conv => rhs; rhs; rw [← List.take_append_drop p l, List.mem_append]
  constructor
  · rintro (h | h | h)
    · exact .inr (.inl h)
    · exact .inl h
    · exact .inr (.inr h)
  · rintro (h | h | h)
    · exact .inr (.inl h)
    · exact .inl h
    · exact .inr (.inr h)
theorem at_new {l : QL} {o : RO} (hs : l.Pairwise fun a b => b.2 ≤ a.2) (ho : o.1 = 1 ∨ o.1 = 2) (lev : Int) :
    ids (atL (l.take (inQ l o) ++ (o.2.1, o.2.2) :: l.drop (inQ l o)) lev) = if o.2.2 = lev then putL (ids (atL l lev)) o.2.1 (decide (o.1 = 2)) else ids (atL l lev) := by
  rw [at_ins, at_split l (inQ l o)]
  by_cases h : o.2.2 = lev
  · rw [if_pos h, if_pos h]
    rcases ho with h1 | h1
    · have e : atL (l.drop (inQ l o)) lev = [] := at_none fun e he => by
        have := (dr_bef hs he).2 h1
        omega
      rw [e]
      unfold putL ids
      rw [if_neg (by rw [h1]; decide)]
      simp
    · have e : atL (l.take (inQ l o)) lev = [] := at_none fun e he => by
        rcases bef_iff.1 (tk_bef he) with g | g
        · omega
        · omega
      rw [e]
      unfold putL ids
      rw [if_pos (by rw [h1]; decide)]
      simp
  · rw [if_neg h, if_neg h, List.nil_append]
theorem putL_ne {l : List Int} {x : Int} {h : Bool} : putL l x h ≠ [] := by
  unfold putL
  cases h <;> simp
theorem RQ_add {q : QM} {l : QL} {o : RO} (h : RQ q l) (ho : o.1 = 1 ∨ o.1 = 2) (h0 : 0 ≤ o.2.2) (h1 : o.2.2 ≤ 31) (hp : ¬ 0 ≤ posQ l o.2.1) :
    RQ (addQ q o.2.1 o.2.2 (decide (o.1 = 2))) (l.take (inQ l o) ++ (o.2.1, o.2.2) :: l.drop (inQ l o)) := by
  have hnew : o.2.1 ∉ ids l := fun g => hp (posQ_iff.2 g)
  obtain ⟨⟨a1, a2, a3⟩, b, c, d, e, f, g⟩ := h
  obtain ⟨s1, s2⟩ := setB_bits ⟨a2, a3⟩ h0 (by omega : o.2.2 < 32)
  have hall : RQ q l := ⟨⟨a1, a2, a3⟩, b, c, d, e, f, g⟩
  refine ⟨⟨by show (q.2.1.set _ _).length = 32; rw [List.length_set]; exact a1, s1⟩, ?_, ?_, ?_, ?_, ?_, put_nodup _ _ g⟩
  · intro x hx
    rcases ins_mem.1 hx with rfl | hx
    · exact ⟨h0, h1⟩
    · exact b x hx
  · unfold ids at c ⊢
    rw [List.map_append, List.map_cons]
    rw [← List.take_append_drop (inQ l o) l, List.map_append] at c
    have hn : o.2.1 ∉ (l.take (inQ l o)).map Prod.fst ++ (l.drop (inQ l o)).map Prod.fst := by
      rw [← List.map_append, List.take_append_drop]; exact hnew
    rw [List.nodup_append] at c ⊢
    obtain ⟨c1, c2, c3⟩ := c
    rw [List.mem_append, not_or] at hn
    refine ⟨c1, List.nodup_cons.2 ⟨hn.2, c2⟩, fun x hx y hy => ?_⟩
    rcases List.mem_cons.1 hy with rfl | hy
    · exact fun e => hn.1 (e ▸ hx)
    · exact c3 x hx y hy
  · have d2 := d
    rw [← List.take_append_drop (inQ l o) l, List.pairwise_append] at d2
    obtain ⟨d3, d4, d5⟩ := d2
    rw [List.pairwise_append]
    refine ⟨d3, List.pairwise_cons.2 ⟨fun x hx => (dr_bef d hx).1, d4⟩, fun x hx y hy => ?_⟩
    rcases List.mem_cons.1 hy with rfl | hy
    · show o.2.2 ≤ x.2
      rcases bef_iff.1 (tk_bef hx) with g | g <;> omega
    · exact d5 x hx y hy
  · intro i hi
    have hA := at_new d ho (i : Int)
    have hL := RQ_lvl hall (lev := (i : Int)) (by omega) (by omega)
    have hL2 := RQ_lvl hall h0 (by omega : o.2.2 < 32)
    have hq : (addQ q o.2.1 o.2.2 (decide (o.1 = 2))).2.1.getD i [] = if o.2.2 = (i : Int) then putL (lvl q o.2.2) o.2.1 (decide (o.1 = 2)) else q.2.1.getD i [] := by
      show (q.2.1.set _ _).getD i [] = _
      rw [getD_setN, a1]
      by_cases h : o.2.2 = (i : Int)
      · rw [if_pos (by omega), if_pos (by omega), if_pos h]
      · rw [if_neg (by omega), if_neg h]
    refine ⟨?_, ?_⟩
    · rw [hq]
      show _ = ids (atL _ (i : Int))
      rw [hA]
      by_cases h : o.2.2 = (i : Int)
      · rw [if_pos h, if_pos h, hL2, h]
      · rw [if_neg h, if_neg h]
        exact hL
    · rw [hq, show (addQ q o.2.1 o.2.2 (decide (o.1 = 2))).1 = setB q.1 o.2.2 from rfl, s2 i hi, (e i hi).2]
      by_cases h : o.2.2 = (i : Int)
      · rw [if_pos h]
        exact ⟨fun _ => putL_ne, fun _ => .inr h⟩
      · rw [if_neg h]
        exact ⟨fun g => g.resolve_right h, fun g => .inl g⟩
  · intro id
    refine ⟨?_, fun x hx => ?_⟩
    · show mhas I64 (mput I64 q.2.2 o.2.1 o.2.2) id = true ↔ _
      rw [mhas_put, (f id).1, posQ_iff, posQ_iff, ins_ids]
      constructor
      · rintro (g | g)
        · exact .inl g.symm
        · exact .inr g
      · rintro (g | g)
        · exact .inl g.symm
        · exact .inr g
    · show mval I64 (mput I64 q.2.2 o.2.1 o.2.2) x.1 = x.2
      rw [mval_put]
      rcases ins_mem.1 hx with rfl | hx
      · rw [if_pos rfl]
      · rw [if_neg (fun e => hnew (by rw [e]; exact mem_ids.2 ⟨x, hx, rfl⟩))]
        exact (f x.1).2 x hx
/- One is taken out. -/
theorem erase_filter {α : Type} {f : α → Int} {id : Int} : ∀ {l : List α} {k : Nat} (h : k < l.length), (l.map f).Nodup → f l[k] = id → l.eraseIdx k = l.filter fun e => !decide (f e = id)
  | a :: r, 0, _, hn, he => by
    have he : f a = id := he
    rw [List.map_cons, List.nodup_cons] at hn
    rw [List.filter_cons, List.eraseIdx_cons_zero]
    simp only [he, decide_true, Bool.not_true, Bool.false_eq_true, if_false]
    rw [eq_comm, List.filter_eq_self]
    intro x hx
    simp only [Bool.not_eq_true', decide_eq_false_iff_not]
    exact fun e => hn.1 (by rw [he, ← e]; exact List.mem_map.2 ⟨x, hx, rfl⟩)
  | a :: r, k + 1, h, hn, he => by
    rw [List.map_cons, List.nodup_cons] at hn
    have hk : k < r.length := by simpa using h
    have he : f r[k] = id := he
    have hne : f a ≠ id := fun e => hn.1 (by rw [e, ← he]; exact List.mem_map.2 ⟨_, List.getElem_mem hk, rfl⟩)
    rw [List.filter_cons, List.eraseIdx_cons_succ, erase_filter hk hn.2 he]
    simp [hne]
theorem idx_some {L : List Int} {id : Int} (h : id ∈ L) : ∃ (k : Nat) (hk : k < L.length), idx L id = k ∧ L[k] = id := by
  cases e : L.idxOf? id with
  | none => exact absurd h (List.idxOf?_eq_none_iff.1 e)
  | some k =>
    have e2 : L.findIdx? (· == id) = some k := e
    obtain ⟨hk, h1, _⟩ := List.findIdx?_eq_some_iff_getElem.1 e2
    refine ⟨k, hk, ?_, by simpa using h1⟩
    unfold idx
    rw [e]
theorem cut_filter {L : List Int} {id : Int} (hn : L.Nodup) (h : id ∈ L) : cutL L (idx L id) = L.filter fun e => !decide (e = id) := by
  obtain ⟨k, hk, e, hg⟩ := idx_some h
  unfold cutL
  rw [e, show ((k : Int) + 1).toNat = k + 1 by omega, Int.toNat_natCast, ← List.eraseIdx_eq_take_drop_succ]
  exact erase_filter (f := fun x => x) hk (by simpa using hn) hg
theorem cut_len {L : List Int} {id : Int} (h : id ∈ L) : 0 ≤ idx L id ∧ idx L id < L.length := by
  obtain ⟨k, hk, e, _⟩ := idx_some h
  omega
def noId (id : Int) (l : QL) : QL := l.filter fun e => !decide (e.1 = id)
theorem mem_noId {id : Int} {l : QL} {e : Int × Int} : e ∈ noId id l ↔ e ∈ l ∧ e.1 ≠ id := by unfold noId; simp [List.mem_filter]
theorem ids_noId {id : Int} {l : QL} : ids (noId id l) = (ids l).filter fun e => !decide (e = id) := by
  unfold noId ids
  rw [List.filter_map]
  rfl
theorem at_noId {id lev : Int} {l : QL} : atL (noId id l) lev = noId id (atL l lev) := by
  unfold noId atL
  rw [List.filter_filter, List.filter_filter]
  congr 1
  funext e
  exact Bool.and_comm _ _
theorem RQ_pos {q : QM} {l : QL} (h : RQ q l) {id : Int} (hp : 0 ≤ posQ l id) : (0 ≤ (mval I64 q.2.2 id : Int) ∧ (mval I64 q.2.2 id : Int) < 32) ∧ id ∈ ids (atL l (mval I64 q.2.2 id)) ∧ (id, (mval I64 q.2.2 id : Int)) ∈ l := by
  obtain ⟨e, he, e1⟩ := mem_ids.1 (posQ_iff.1 hp)
  have hv : mval I64 q.2.2 e.1 = e.2 := (h.2.2.2.2.2.1 e.1).2 e he
  rw [e1] at hv
  have hr := h.2.1 e he
  have hv2 : (mval I64 q.2.2 id : Int) = e.2 := hv
  rw [hv2]
  refine ⟨⟨hr.1, Int.lt_of_le_of_lt hr.2 (by decide)⟩, mem_ids.2 ⟨e, mem_atL.2 ⟨he, rfl⟩, e1⟩, ?_⟩
  rw [← e1]; exact he
theorem one_lev {q : QM} {l : QL} (h : RQ q l) {id lev : Int} (hm : id ∈ ids (atL l lev)) : lev = mval I64 q.2.2 id := by
  obtain ⟨e, he, e1⟩ := mem_ids.1 hm
  obtain ⟨he, e2⟩ := mem_atL.1 he
  have hv : mval I64 q.2.2 e.1 = e.2 := (h.2.2.2.2.2.1 e.1).2 e he
  rw [e1] at hv
  exact e2.symm.trans hv.symm
theorem nodup_at {l : QL} (h : (ids l).Nodup) (lev : Int) : (ids (atL l lev)).Nodup := by
  unfold ids atL at *
  exact (List.filter_sublist.map _).nodup h
theorem RQ_drop {q : QM} {l : QL} {id : Int} (h : RQ q l) (hp : 0 ≤ posQ l id) : RQ (dropQ q id) (l.eraseIdx (posQ l id).toNat) := by
  obtain ⟨⟨v0, v1⟩, hin, hmem⟩ := RQ_pos h hp
  have hall := h
  obtain ⟨⟨a1, a2, a3⟩, b, c, d, e, f, g⟩ := h
  have hl : l.eraseIdx (posQ l id).toNat = noId id l := by
    obtain ⟨k, hk, e1, e2⟩ := posQ_some hp
    rw [e1, Int.toNat_natCast]
    exact erase_filter (f := Prod.fst) hk c e2
  rw [hl]
  have hL2 := RQ_lvl hall v0 v1
  have hcut : cutL (lvl q (mval I64 q.2.2 id)) (idx (lvl q (mval I64 q.2.2 id)) id) = ids (noId id (atL l (mval I64 q.2.2 id))) := by
    rw [hL2, cut_filter (nodup_at c _) hin, ids_noId]
  have hother : ∀ lev : Int, lev ≠ mval I64 q.2.2 id → noId id (atL l lev) = atL l lev := fun lev hne => by
    unfold noId
    rw [List.filter_eq_self]
    intro x hx
    simp only [Bool.not_eq_true', decide_eq_false_iff_not]
    exact fun e => hne (one_lev hall (mem_ids.2 ⟨x, hx, e⟩))
  have hq1 : (dropQ q id).1 = if (ids (noId id (atL l (mval I64 q.2.2 id)))).length = 0 then clrB q.1 (mval I64 q.2.2 id) else q.1 := by
    unfold dropQ
    simp only [hcut]
  have hq2 : (dropQ q id).2.1 = q.2.1.set (Int.toNat (mval I64 q.2.2 id)) (ids (noId id (atL l (mval I64 q.2.2 id)))) := by
    unfold dropQ
    simp only [hcut]
  clear hcut hL2
  have hone : ∀ {lev : Int}, id ∈ ids (atL l lev) → lev = (mval I64 q.2.2 id : Int) := one_lev hall
  obtain ⟨lv, hlv⟩ : ∃ lv : Int, lv = (mval I64 q.2.2 id : Int) := ⟨_, rfl⟩
  rw [← hlv] at v0 v1 hin hmem hq1 hq2
  simp only [← hlv] at hother hone
  have v0 : (0 : Int) ≤ lv := v0
  have v1 : lv < (32 : Int) := v1
  obtain ⟨s1, s2⟩ := clrB_bits ⟨a2, a3⟩ v0 v1
  have hq3 : (dropQ q id).2.2 = mdel I64 q.2.2 id := rfl
  generalize dropQ q id = q' at hq1 hq2 hq3
  obtain ⟨q1, q2, q3⟩ := q'
  simp only [] at hq1 hq2 hq3
  subst hq1; subst hq2; subst hq3
  refine ⟨⟨by show (q.2.1.set _ _).length = 32; rw [List.length_set]; exact a1, ?_⟩, ?_, ?_, ?_, ?_, ?_, del_nodup g _⟩
  · show 0 ≤ (if _ then _ else _ : Int) ∧ (if _ then _ else _ : Int) < 4294967296
    split
    · exact s1
    · exact ⟨a2, a3⟩
  · exact fun x hx => b x (mem_noId.1 hx).1
  · rw [ids_noId]
    exact List.filter_sublist.nodup c
  · exact d.sublist List.filter_sublist
  · intro i hi
    have hL := RQ_lvl hall (lev := (i : Int)) (by omega) (by omega)
    have hq : (q.2.1.set lv.toNat (ids (noId id (atL l lv)))).getD i [] = ids (atL (noId id l) (i : Int)) := by
      rw [getD_setN, a1, at_noId]
      by_cases h : lv = (i : Int)
      · rw [if_pos (by omega), if_pos (by omega), h]
      · rw [if_neg (by omega), hother _ (fun e => h e.symm)]
        exact hL
    refine ⟨hq, ?_⟩
    show (if _ then _ else _ : Int).toNat.testBit i = true ↔ (q.2.1.set _ _).getD i [] ≠ []
    rw [hq, at_noId]
    by_cases h : lv = (i : Int)
    · split
      · rename_i hz
        rw [s2 i hi]
        rw [h] at hz
        refine ⟨fun g => absurd h g.2, fun g => absurd (List.length_eq_zero_iff.1 hz) g⟩
      · rename_i hz
        rw [h] at hz
        rw [(e i hi).2]
        refine ⟨fun _ g => hz (by rw [g]; rfl), fun _ => ?_⟩
        have : q.2.1.getD i [] = ids (atL l (i : Int)) := hL
        rw [this]
        intro g
        rw [h, g] at hin
        cases hin
    · rw [hother _ (fun e => h e.symm)]
      have hb : (if (ids (noId id (atL l lv))).length = 0 then clrB q.1 lv else q.1).toNat.testBit i = true ↔ q.1.toNat.testBit i = true := by
        split
        · rw [s2 i hi]
          exact ⟨fun g => g.1, fun g => ⟨g, h⟩⟩
        · exact Iff.rfl
      rw [hb, (e i hi).2]
      have : q.2.1.getD i [] = ids (atL l (i : Int)) := hL
      rw [this]
  · intro x
    refine ⟨?_, fun y hy => ?_⟩
    · show mhas I64 (mdel I64 q.2.2 id) x = true ↔ _
      rw [mhas_del g, (f x).1, posQ_iff, posQ_iff, ids_noId, List.mem_filter]
      simp only [Bool.not_eq_true', decide_eq_false_iff_not]
      exact ⟨fun h => ⟨h.2, fun e => h.1 e.symm⟩, fun h => ⟨fun e => h.2 e.symm, h.1⟩⟩
    · obtain ⟨hy1, hy2⟩ := mem_noId.1 hy
      show mval I64 (mdel I64 q.2.2 id) y.1 = y.2
      rw [mval_del g (fun e => hy2 e.symm)]
      exact (f y.1).2 y hy1

end Go.Proofs.Ytpmfgdedkmddlaa.Runq
