/-
  LiftGoes: the search, the joining, the ways.
-/
import Derived.Test.YtpnmfoojmodnlaaLiftsP0
namespace Go.Proofs.Ytpnmfoojmodnlaa.Lifts
open Go.Sx
set_option maxRecDepth 100000
set_option maxHeartbeats 1000000
set_option linter.unusedSimpArgs false
set_option linter.unusedVariables false

theorem pw_get {l : List Int} (h : l.Pairwise (· ≤ ·)) {i j : Nat} (hij : i ≤ j) (hj : j < l.length) : l.getD i 0 ≤ l.getD j 0 := by
  rcases Nat.lt_or_ge i j with h1 | h1
  · have := List.pairwise_iff_getElem.1 h i j (by omega) hj h1
    simpa [List.getD, hj, show i < l.length by omega] using this
  · have : i = j := by omega
    subst this; omega
theorem lb_eq {l : List Int} {t i : Int} (h0 : 0 ≤ i) (h1 : i ≤ l.length) (ha : ∀ k, 0 ≤ k → k < i → l.getD k.toNat 0 < t) (hb : ∀ k, i ≤ k → k < l.length → t ≤ l.getD k.toNat 0) : lb l t = i := by
  unfold lb
  have e : l = l.take i.toNat ++ l.drop i.toNat := (List.take_append_drop _ _).symm
  rw [e, List.countP_append, List.countP_eq_length.2, List.countP_eq_zero.2]
  · rw [List.length_take]; omega
  · intro x hx
    obtain ⟨k, hk⟩ := List.mem_iff_getElem?.1 hx
    rw [List.getElem?_drop] at hk
    have hlt : i.toNat + k < l.length := (List.getElem?_eq_some_iff.1 hk).1
    have := hb (i.toNat + k : Nat) (by omega) (by omega)
    rw [Int.toNat_natCast, List.getD_eq_getElem?_getD, hk] at this
    simpa using this
  · intro x hx
    obtain ⟨k, hk⟩ := List.mem_iff_getElem?.1 hx
    rw [List.getElem?_take] at hk
    split at hk
    · have := ha k (by omega) (by omega)
      rw [Int.toNat_natCast, List.getD_eq_getElem?_getD, hk] at this
      simpa using this
    · cases hk
theorem half {i j : Int} (h0 : 0 ≤ i) (h1 : i ≤ j) (h2 : j ≤ 400) : IntKind.i64.wrap (IntKind.u64.wrap (i + j) / 2 ^ min (Int.toNat 1) IntKind.u64.bits) = (i + j) / 2 := by
  have e : (2 : Int) ^ min (Int.toNat 1) IntKind.u64.bits = 2 := by decide
  rw [e, wrap_in (k := .u64) ⟨by omega, by omega⟩, wrap_in (k := .i64) ⟨by omega, by omega⟩]
theorem e_bs (x : List Int × Int × Unit) (hp : x.1.length ≤ 400 ∧ x.1.Pairwise (· ≤ ·)) (hl : LensL cBS.as x) : E_bs x := by
  obtain ⟨l, t, u⟩ := x
  simp only [] at hp
  obtain ⟨hlen, hpw⟩ := hp
  have hg := fun (i j : Nat) h h' => pw_get hpw (i := i) (j := j) h h'
  unfold E_bs found
  simp only [Bool.not_eq_true', Bool.not_eq_false', Bool.not_eq_true, Bool.not_eq_false, beq_self_eq_true, decide_eq_true_eq, decide_eq_false_iff_not, Bool.not_false, Bool.not_true, beq_iff_eq, beq_eq_false_iff_ne, bne_iff_ne, ne_eq, bne_eq_false_iff_eq, holds_iff, true_and, and_true, and_self, eq_self, List.length_cons, List.length_nil, List.length_append, List.length_set, List.length_replicate, List.set_cons_zero, cond_true, cond_false, Bool.false_eq_true, Bool.true_eq_false, forall_const, false_imp_iff, imp_self, implies_true, and_imp, Decidable.not_not, Bool.and_eq_true, Bool.or_eq_true, Bool.and_eq_false_iff, Bool.or_eq_false_iff, ← List.length_eq_zero_iff, or_self, or_false, false_or, Prod.forall, Int.reduceEq, Int.reduceLT, Int.reduceLE, List.nil_append, Nat.zero_add, Int.toNat_zero, List.drop_zero, List.length_drop, List.length_take, not_true_eq_false, not_false_eq_true]
  try simp only [flip_f, flip_t, decide_eq_true_eq, decide_eq_false_iff_not]
  refine ⟨⟨by omega, by omega, fun k h0 h1 => by omega, fun k h0 h1 => by omega⟩, ?_⟩
  intro i j _ h0 h1 h2 ha hb _ _ _ _
  refine ⟨fun hij => ?_, fun hij => ?_⟩
  · rw [half h0 h1 (by omega)]
    generalize hm : (i + j) / 2 = m
    have m0 : i ≤ m := by omega
    have m1 : m < j := by omega
    refine ⟨by omega, by omega, fun hlt => ⟨by omega, ⟨by omega, by omega, by omega, fun k k0 k1 => ?_, hb⟩, by omega⟩, fun hge => ⟨⟨by omega, by omega, by omega, ha, fun k k0 k1 => ?_⟩, by omega⟩⟩
    · have := hg k.toNat m.toNat (by omega) (by omega); omega
    · have := hg m.toNat k.toNat (by omega) (by omega); omega
  · have e : lb l t = i := lb_eq h0 (by omega) ha (fun k k0 k1 => hb k (by omega) k1)
    rw [e]
    clear ha hb hg
    repeat' (first | with_reducible apply And.intro | with_reducible intro _)
    all_goals first | omega | assumption | grind
theorem flat_next {L : List (List Int)} {k : Int} (h0 : 0 ≤ k) (h1 : k < L.length) : (L.take (k + 1).toNat).flatten = (L.take k.toNat).flatten ++ L.getD k.toNat [] := by
  rw [takeI_succ [] h0 h1, List.flatten_append]
  simp
theorem flat_le {L : List (List Int)} {k : Nat} : (L.take k).flatten.length ≤ L.flatten.length := by
  conv => rhs; rw [← List.take_append_drop k L, List.flatten_append, List.length_append]
  omega
theorem e_concat (x : List (List Int) × Unit) (hp : x.1.flatten.length ≤ 800) (hl : LensL cConcat.as x) : E_concat x := by
  obtain ⟨L, u⟩ := x
  simp only [] at hp
  have hlL : L.length ≤ 9223372036854775807 := hl.1.1
  unfold E_concat
  simp only [Bool.not_eq_true', Bool.not_eq_false', Bool.not_eq_true, Bool.not_eq_false, beq_self_eq_true, decide_eq_true_eq, decide_eq_false_iff_not, Bool.not_false, Bool.not_true, beq_iff_eq, beq_eq_false_iff_ne, bne_iff_ne, ne_eq, bne_eq_false_iff_eq, holds_iff, true_and, and_true, and_self, eq_self, List.length_cons, List.length_nil, List.length_append, List.length_set, List.length_replicate, List.set_cons_zero, cond_true, cond_false, Bool.false_eq_true, Bool.true_eq_false, forall_const, false_imp_iff, imp_self, implies_true, and_imp, Decidable.not_not, Bool.and_eq_true, Bool.or_eq_true, Bool.and_eq_false_iff, Bool.or_eq_false_iff, ← List.length_eq_zero_iff, or_self, or_false, false_or, Prod.forall, Int.reduceEq, Int.reduceLT, Int.reduceLE, List.nil_append, Nat.zero_add, Int.toNat_zero, List.drop_zero, List.length_drop, List.length_take, not_true_eq_false, not_false_eq_true]
  try simp only [flip_f, flip_t, decide_eq_true_eq, decide_eq_false_iff_not]
  refine ⟨⟨by omega, rfl⟩, ?_⟩
  intro n k h0 h1 hn _ _ _ _
  have hle := flat_le (L := L) (k := k.toNat)
  refine ⟨fun hk => ?_, fun hk => ?_⟩
  · have hnx := flat_next h0 hk
    have hle2 := flat_le (L := L) (k := (k + 1).toNat)
    have hnl := congrArg List.length hnx
    rw [List.length_append] at hnl
    refine ⟨by omega, by omega, by omega, fun _ => ⟨by omega, ⟨by omega, by omega, by omega⟩, by omega⟩⟩
  · refine ⟨by omega, ⟨by omega, rfl⟩, ?_⟩
    intro o j j0 j1 ho _ _ _ _
    have hle3 := flat_le (L := L) (k := j.toNat)
    refine ⟨fun hj => ?_, fun hj => ?_⟩
    · have hnx := flat_next j0 hj
      have hle2 := flat_le (L := L) (k := (j + 1).toNat)
      have hnl := congrArg List.length hnx
      rw [List.length_append] at hnl
      have hol := congrArg List.length ho
      refine ⟨by omega, by omega, by omega, ⟨by omega, by omega, by rw [hnx, ho]⟩, by omega⟩
    · rw [ho, takeI_all (by omega)]
theorem wr_zero {l : List Int} (h : wr l = 0) : l.length ≤ 400 ∧ l.all okB = true := by
  unfold wr at h
  split at h
  · omega
  · rename_i hh
    refine ⟨by omega, ?_⟩
    rcases hb : l.all okB with _ | _
    · exact absurd (Or.inr hb) hh
    · rfl
theorem wr_one {h : Int} : wr [h] = 0 ↔ okB h = true := by
  unfold wr
  rcases hb : okB h with _ | _ <;> simp [hb]
theorem okB_iff {a : Int} : okB a = true ↔ 0 ≤ a ∧ a ≤ 1099511627776 := by unfold okB; simp
theorem walk_next {h k : Int} {l : List Int} {n c : Int} (h0 : 0 ≤ k) (h1 : k < l.length) (hw : walk h (l.take k.toNat) = (n, c)) : walk h (l.take (k + 1).toNat) = (n + max (l.getD k.toNat 0 - c) (c - l.getD k.toNat 0), l.getD k.toNat 0) := by
  rw [takeI_succ 0 h0 h1]
  unfold walk at hw ⊢
  rw [List.foldl_append, hw]
  rfl
theorem e_way (x : Int × List Int × Unit) (hp : True) (hl : LensL cWay.as x) : E_way x := by
  obtain ⟨h, l, u⟩ := x
  unfold E_way
  by_cases hl0 : wr l = 0
  · obtain ⟨hlen, hall⟩ := wr_zero hl0
    by_cases hh0 : wr [h] = 0
    · have hok := okB_iff.1 (wr_one.1 hh0)
      have hok' := wr_one.1 hh0
      have ew : way h l = ((walk h l).1, 0) := by simp [way, hl0, hh0]
      simp only [Bool.not_eq_true', Bool.not_eq_false', Bool.not_eq_true, Bool.not_eq_false, beq_self_eq_true, decide_eq_true_eq, decide_eq_false_iff_not, Bool.not_false, Bool.not_true, beq_iff_eq, beq_eq_false_iff_ne, bne_iff_ne, ne_eq, bne_eq_false_iff_eq, holds_iff, true_and, and_true, and_self, eq_self, List.length_cons, List.length_nil, List.length_append, List.length_set, List.length_replicate, List.set_cons_zero, cond_true, cond_false, Bool.false_eq_true, Bool.true_eq_false, forall_const, false_imp_iff, imp_self, implies_true, and_imp, Decidable.not_not, Bool.and_eq_true, Bool.or_eq_true, Bool.and_eq_false_iff, Bool.or_eq_false_iff, ← List.length_eq_zero_iff, or_self, or_false, false_or, Prod.forall, Int.reduceEq, Int.reduceLT, Int.reduceLE, List.nil_append, Nat.zero_add, Int.toNat_zero, List.drop_zero, List.length_drop, List.length_take, not_true_eq_false, not_false_eq_true,  hl0, hh0, ew]
      refine ⟨⟨by omega, rfl, hok', by omega⟩, ?_⟩
      intro c n k k0 k1 hw hc n0 n1 _ _ _ _ _ _
      have hc' := okB_iff.1 hc
      refine ⟨fun hk => ?_, fun hk => ?_⟩
      · have hb := all_get (l := l) (k := k.toNat) (by omega) hall
        have hn := walk_next k0 hk hw
        have hbo := okB_ok hb.1 hb.2
        generalize l.getD k.toNat 0 = b at hb hn hbo ⊢
        refine ⟨by omega, by omega, by omega, by omega, by omega, ⟨by omega, by omega, hn, hbo, by omega, by omega⟩, by omega⟩
      · rw [takeI_all (by omega)] at hw
        rw [hw]
    · have ew : way h l = (0, 2) := by simp [way, hh0]
      simp only [Bool.not_eq_true', Bool.not_eq_false', Bool.not_eq_true, Bool.not_eq_false, beq_self_eq_true, decide_eq_true_eq, decide_eq_false_iff_not, Bool.not_false, Bool.not_true, beq_iff_eq, beq_eq_false_iff_ne, bne_iff_ne, ne_eq, bne_eq_false_iff_eq, holds_iff, true_and, and_true, and_self, eq_self, List.length_cons, List.length_nil, List.length_append, List.length_set, List.length_replicate, List.set_cons_zero, cond_true, cond_false, Bool.false_eq_true, Bool.true_eq_false, forall_const, false_imp_iff, imp_self, implies_true, and_imp, Decidable.not_not, Bool.and_eq_true, Bool.or_eq_true, Bool.and_eq_false_iff, Bool.or_eq_false_iff, ← List.length_eq_zero_iff, or_self, or_false, false_or, Prod.forall, Int.reduceEq, Int.reduceLT, Int.reduceLE, List.nil_append, Nat.zero_add, Int.toNat_zero, List.drop_zero, List.length_drop, List.length_take, not_true_eq_false, not_false_eq_true,  hl0, hh0, ew]
      try grind
  · have ew : way h l = (0, 2) := by simp [way, hl0]
    simp only [Bool.not_eq_true', Bool.not_eq_false', Bool.not_eq_true, Bool.not_eq_false, beq_self_eq_true, decide_eq_true_eq, decide_eq_false_iff_not, Bool.not_false, Bool.not_true, beq_iff_eq, beq_eq_false_iff_ne, bne_iff_ne, ne_eq, bne_eq_false_iff_eq, holds_iff, true_and, and_true, and_self, eq_self, List.length_cons, List.length_nil, List.length_append, List.length_set, List.length_replicate, List.set_cons_zero, cond_true, cond_false, Bool.false_eq_true, Bool.true_eq_false, forall_const, false_imp_iff, imp_self, implies_true, and_imp, Decidable.not_not, Bool.and_eq_true, Bool.or_eq_true, Bool.and_eq_false_iff, Bool.or_eq_false_iff, ← List.length_eq_zero_iff, or_self, or_false, false_or, Prod.forall, Int.reduceEq, Int.reduceLT, Int.reduceLE, List.nil_append, Nat.zero_add, Int.toNat_zero, List.drop_zero, List.length_drop, List.length_take, not_true_eq_false, not_false_eq_true,  hl0, ew]
    try grind
theorem sway_bad {h : Int} {l : List Int} (hb : ¬ (wr l = 0 ∧ wr [h] = 0)) : sway h l = -1 := by
  unfold sway
  rw [if_pos (by omega)]
theorem sway_bad_at {h : Int} {l : List Int} {k : Nat} (hk : k < (h :: l).length) (hb : okB ((h :: l).getD k 0) = false) : sway h l = -1 := by
  apply sway_bad
  rintro ⟨h1, h2⟩
  have := all_false hk hb
  rw [List.all_cons, wr_one.1 h2, (wr_zero h1).2] at this
  cases this
theorem walk_self {h : Int} {l : List Int} : walk h (h :: l) = walk h l := by
  unfold walk
  rw [List.foldl_cons]
  congr 1
  simp [stepW]
theorem e_sway (x : Int × List Int × Unit) (hp : True) (hl : LensL cSway.as x) : E_sway x := by
  obtain ⟨h, l, u⟩ := x
  have hr : -9223372036854775808 ≤ h ∧ h ≤ 9223372036854775807 := hl.1
  unfold E_sway
  have e0 : ((0 : Int) :: []).set (0 : Nat) h ++ l = h :: l := rfl
  simp only [e0]
  simp only [Bool.not_eq_true', Bool.not_eq_false', Bool.not_eq_true, Bool.not_eq_false, beq_self_eq_true, decide_eq_true_eq, decide_eq_false_iff_not, Bool.not_false, Bool.not_true, beq_iff_eq, beq_eq_false_iff_ne, bne_iff_ne, ne_eq, bne_eq_false_iff_eq, holds_iff, true_and, and_true, and_self, eq_self, List.length_cons, List.length_nil, List.length_append, List.length_set, List.length_replicate, List.set_cons_zero, cond_true, cond_false, Bool.false_eq_true, Bool.true_eq_false, forall_const, false_imp_iff, imp_self, implies_true, and_imp, Decidable.not_not, Bool.and_eq_true, Bool.or_eq_true, Bool.and_eq_false_iff, Bool.or_eq_false_iff, ← List.length_eq_zero_iff, or_self, or_false, false_or, Prod.forall, Int.reduceEq, Int.reduceLT, Int.reduceLE, List.nil_append, Nat.zero_add, Int.toNat_zero, List.drop_zero, List.length_drop, List.length_take, not_true_eq_false, not_false_eq_true]
  try simp only [flip_f, flip_t, decide_eq_true_eq, decide_eq_false_iff_not]
  refine ⟨fun hlen => ?_, fun hlen => ?_⟩
  · rw [sway_bad (fun hh => by have := (wr_zero hh.1).1; omega)]
  · refine ⟨by omega, ⟨by omega, rfl, by simp⟩, ?_⟩
    intro c n k k0 k1 hw hall hc n0 n1 _ _ _ _ _ _
    refine ⟨fun hk => ?_, fun hk => ?_⟩
    · have hk' : k < (h :: l).length := hk
      have hn := walk_next k0 hk' hw
      have hbad := sway_bad_at (h := h) (l := l) (k := k.toNat) (by omega)
      have hnx := all_next k0 hk' hall
      have hsame : k = 0 → (h :: l).getD k.toNat 0 = c := by
        rintro rfl
        exact congrArg Prod.snd hw
      generalize (h :: l).getD k.toNat 0 = b at hn hbad hnx hsame ⊢
      refine ⟨⟨k0, hk⟩, fun hb => ?_, fun b0 b1 => ?_⟩
      · rw [hbad (okB_bad hb)]
      · have hbo := okB_ok (a := b) (by omega) (by omega)
        have hbc : b - c ≤ 1099511627776 ∧ c - b ≤ 1099511627776 := by
          by_cases e : k = 0
          · have := hsame e; omega
          · rcases hc with hc | hc
            · exact absurd hc e
            · have := okB_iff.1 hc; omega
        have hall' := hnx b0 b1
        refine ⟨fun hlt => ?_, fun hge => ?_⟩
        · rw [show max (b - c) (c - b) = b - c by omega] at hn
          refine ⟨by omega, by omega, by omega, ⟨by omega, by omega, hn, hall', Or.inr hbo, by omega, by omega⟩, by omega⟩
        · rw [show max (b - c) (c - b) = c - b by omega] at hn
          refine ⟨by omega, by omega, by omega, ⟨by omega, by omega, hn, hall', Or.inr hbo, by omega, by omega⟩, by omega⟩
    · have hk' : ((h :: l).length : Int) ≤ k := by rw [List.length_cons]; omega
      rw [takeI_all hk'] at hw hall
      rw [List.all_cons, Bool.and_eq_true] at hall
      rw [walk_self] at hw
      have h2 : wr l = 0 := by
        unfold wr
        rw [if_neg]
        rintro (hh | hh)
        · omega
        · rw [hall.2] at hh; cases hh
      unfold sway
      rw [if_neg (by rw [wr_one.2 hall.1, h2]; simp), hw]

end Go.Proofs.Ytpnmfoojmodnlaa.Lifts
