/-
  CoresRun: the threads' records.
-/
import Derived.Test.YtpnmfoojmodnlaaCoresP4
namespace Go.Proofs.Ytpnmfoojmodnlaa.Cores
open Go.Sx
set_option maxRecDepth 100000
set_option maxHeartbeats 1000000
set_option linter.unusedSimpArgs false
set_option linter.unusedVariables false

def mset (m : PM) (i : Nat) (v : TP) : PM := m.set i ((keys m).getD i 0, v)
theorem keys_len {m : PM} : (keys m).length = m.length := by unfold keys; simp
theorem getD_any {l : List Int} {i : Nat} (h : i < l.length) (d d' : Int) : l.getD i d = l.getD i d' := by
  rw [List.getD_eq_getElem?_getD, List.getD_eq_getElem?_getD, List.getElem?_eq_getElem h]; rfl
theorem key_get {m : PM} {i : Nat} (h : i < m.length) : (keys m).getD i 0 = m[i].1 := by
  unfold keys
  rw [List.getD_eq_getElem?_getD, List.getElem?_map, List.getElem?_eq_getElem h]; rfl
theorem rec_get {m : PM} {i : Nat} (h : i < m.length) : rec m (i : Int) = m[i].2 := by
  unfold rec
  rw [Int.toNat_natCast, List.getD_eq_getElem?_getD, List.getElem?_eq_getElem h]; rfl
theorem th_key {m : PM} {i : Nat} (hn : (keys m).Nodup) (h : i < m.length) : thOf m ((keys m).getD i 0) = rec m i := by
  unfold thOf mval
  have e := mget_at (t := tythread) (m := m) h hn
  rw [key_get h, rec_get h, e]
theorem has_key {m : PM} {i : Nat} (h : i < m.length) : mhas tythread m ((keys m).getD i 0) = true := by
  rw [has_mem]
  exact getD_mem (l := keys m) (by rw [keys_len]; exact h)
theorem put_key {m : PM} {i : Nat} {v : TP} (hn : (keys m).Nodup) (h : i < m.length) : mput tythread m ((keys m).getD i 0) v = mset m i v := by
  unfold mset
  rw [key_get h]
  exact mput_at (t := tythread) (m := m) h hn
theorem mset_len {m : PM} {i : Nat} {v : TP} : (mset m i v).length = m.length := by unfold mset; simp
theorem mset_keys {m : PM} {i : Nat} {v : TP} : keys (mset m i v) = keys m := by
  unfold mset
  by_cases h : i < m.length
  · rw [key_get h]
    unfold keys
    rw [List.map_set]
    show (m.map Prod.fst).set i m[i].1 = m.map Prod.fst
    apply List.ext_getElem?
    intro j
    rw [List.getElem?_set]
    split
    · rename_i e
      subst e
      simp [h]
    · rfl
  · rw [List.set_eq_of_length_le (by omega)]
theorem mset_rec {m : PM} {i j : Nat} {v : TP} (h : i < m.length) : rec (mset m i v) (j : Int) = if j = i then v else rec m j := by
  unfold rec mset
  rw [Int.toNat_natCast, getD_set' h]
  by_cases e : i = j
  · rw [if_pos e, if_pos e.symm]
  · rw [if_neg e, if_neg (fun e' => e e'.symm)]
/- The first so many are laid. -/
theorem lay_next {l : List Th} {al : List Int} {m : PM} {k g : Int} {v : TP} (h0 : 0 ≤ k) (h1 : k < al.length) (hk : keys m = al.take k.toNat) (hr : ∀ i : Nat, (i : Int) < k → rec m (i : Int) = (th l (i : Int), (i : Int), 0, 0))
    (hg : mhas tythread m g = false) (hv : v = (th l k, k, 0, 0)) :
    keys (mput tythread m g v) = (al.set k.toNat g).take (k + 1).toNat ∧ ∀ i : Nat, (i : Int) < k + 1 → rec (mput tythread m g v) (i : Int) = (th l (i : Int), (i : Int), 0, 0) := by
  have hl : m.length = k.toNat := by
    have := congrArg List.length hk
    rw [keys_len, List.length_take] at this
    omega
  rw [mput_new hg]
  refine ⟨?_, fun i hi => ?_⟩
  · have e : keys (m ++ [(g, v)]) = keys m ++ [g] := by unfold keys; simp
    rw [e, hk, takeI_succ 0 h0 (by simpa using h1), List.take_set_of_le (Nat.le_refl _), getD_set' (by omega), if_pos rfl]
  · by_cases e : i < m.length
    · have : rec (m ++ [(g, v)]) (i : Int) = rec m i := by
        unfold rec
        rw [Int.toNat_natCast, List.getD_eq_getElem?_getD, List.getD_eq_getElem?_getD, List.getElem?_append_left e]
      rw [this]
      exact hr i (by omega)
    · have e1 : i = m.length := by omega
      subst e1
      have : rec (m ++ [(g, v)]) (m.length : Int) = v := by
        unfold rec
        rw [Int.toNat_natCast, List.getD_eq_getElem?_getD, List.getElem?_append_right (Nat.le_refl _)]
        simp
      rw [this, hv]
      have e2 : ((m.length : Nat) : Int) = k := by omega
      rw [e2]
theorem RT_start {n sl : Int} {l : List Th} {al : List Int} {m : PM} (hk : keys m = al.take l.length) (hal : al.length = l.length) (hr : ∀ i : Nat, i < l.length → rec m (i : Int) = (th l (i : Int), (i : Int), 0, 0)) : RT l sl 0 al m (nst n sl l 0).1 := by
  have e : (nst n sl l 0).1 = ([], List.replicate l.length 0, List.replicate l.length 0) := rfl
  rw [e]
  refine ⟨⟨by rw [hk, ← hal, List.take_length], hal, by simp, by simp⟩, fun (y : Int) (hy : y ∈ []) => (List.not_mem_nil hy).elim, List.nodup_nil, fun i hi => ?_, List.Pairwise.nil⟩
  rw [hr i hi]
  exact ⟨⟨rfl, rfl, rfl⟩, fun h => (List.not_mem_nil h).elim, fun _ => ⟨rfl, rfl, getD_repl⟩⟩
theorem RT_len {l : List Th} {sl turn : Int} {al : List Int} {m : PM} {q : NS} (h : RT l sl turn al m q) : m.length = l.length := by
  have h1 := h.1.1
  have h2 := congrArg List.length h1
  rw [keys_len, h.1.2.1] at h2
  exact h2
/- One record is changed. -/
theorem RT_set {l : List Th} {sl turn turn' : Int} {al : List Int} {m : PM} {q : NS} {i : Nat} {v : TP} {line' left' ran' : List Int} (h : RT l sl turn al m q) (hi : i < l.length) (ht : turn ≤ turn')
    (hl1 : left'.length = l.length) (hl2 : ran'.length = l.length) (hlo : ∀ j, j ≠ i → left'.getD j 0 = q.2.1.getD j 0 ∧ ran'.getD j 0 = q.2.2.getD j 0)
    (hm : ∀ y, y ∈ line' ↔ (y ∈ q.1 ∨ y = i)) (hnd : line'.Nodup)
    (hv1 : v.1.1 = (rec m i).1.1 ∧ v.1.2.1 = (rec m i).1.2.1 ∧ v.2.1 = (rec m i).2.1) (hv2 : v.1.2.2 = left'.getD i 0 ∧ v.2.2.2 = ran'.getD i 0 % sl ∧ v.2.2.1 ≤ turn')
    (hp : line'.Pairwise fun a b => (rec (mset m i v) a).2.2.1 < (rec (mset m i v) b).2.2.1) : RT l sl turn' al (mset m i v) (line', left', ran') := by
  have hml := RT_len h
  obtain ⟨⟨a1, a2, a3, a4⟩, b1, b2, c, d⟩ := h
  refine ⟨⟨by rw [mset_keys]; exact a1, a2, hl1, hl2⟩, fun y hy => ?_, hnd, fun j hj => ?_, hp⟩
  · rcases (hm y).1 hy with hy | hy
    · exact b1 y hy
    · subst hy; omega
  · rw [mset_rec (by omega)]
    obtain ⟨c1, c2, c3⟩ := c j hj
    by_cases e : j = i
    · subst e
      rw [if_pos rfl]
      refine ⟨⟨hv1.1.trans c1.1, hv1.2.1.trans c1.2.1, hv1.2.2.trans c1.2.2⟩, fun _ => hv2, fun hn => absurd ((hm j).2 (.inr rfl)) hn⟩
    · rw [if_neg e]
      obtain ⟨e1, e2⟩ := hlo j e
      have hmm : ((j : Int) ∈ line') ↔ ((j : Int) ∈ q.1) := by
        rw [hm]
        constructor
        · rintro (h | h)
          · exact h
          · omega
        · exact .inl
      refine ⟨c1, fun hj => ?_, fun hj => ?_⟩
      · have := c2 (hmm.1 hj)
        show (rec m j).1.2.2 = left'.getD j 0 ∧ (rec m j).2.2.2 = ran'.getD j 0 % sl ∧ _
        rw [e1, e2]
        exact ⟨this.1, this.2.1, Int.le_trans this.2.2 ht⟩
      · have := c3 (fun h => hj (hmm.2 h))
        refine ⟨this.1, this.2.1, ?_⟩
        show ran'.getD j 0 = 0
        rw [e2]
        exact this.2.2

end Go.Proofs.Ytpnmfoojmodnlaa.Cores
