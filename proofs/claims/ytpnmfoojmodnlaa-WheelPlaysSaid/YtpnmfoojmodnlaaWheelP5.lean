/-
  WheelPlays: the wheels answer as the reference does.
-/
import Derived.Test.YtpnmfoojmodnlaaWheelP4
namespace Go.Proofs.Ytpnmfoojmodnlaa.Wheel
open Go.Sx
set_option maxRecDepth 100000
set_option maxHeartbeats 1000000
set_option linter.unusedSimpArgs false
set_option linter.unusedVariables false

theorem plc_at {now t z kk : Int} (hc : (kk = 0 ∧ z = 1) ∨ (kk = 1 ∧ z = 8 ∧ 8 ≤ t - now) ∨ (kk = 2 ∧ z = 64 ∧ 8 ≤ t - now ∧ 8 ≤ t / 8 - now / 8)) (h : t / z - now / z < 8 ∨ kk = 2) :
    kk.toNat * 8 + (t / z % 8).toNat = plc now t := by
  unfold plc
  rcases hc with ⟨rfl, rfl⟩ | ⟨rfl, rfl, c1⟩ | ⟨rfl, rfl, c1, c2⟩
  · rw [if_pos (by omega)]; omega
  · rw [if_neg (by omega), if_pos (by omega)]; omega
  · rw [if_neg (by omega), if_neg (by omega)]; omega
theorem put_next {t now z kk : Int} (hc : (kk = 0 ∧ z = 1) ∨ (kk = 1 ∧ z = 8 ∧ 8 ≤ t - now) ∨ (kk = 2 ∧ z = 64 ∧ 8 ≤ t - now ∧ 8 ≤ t / 8 - now / 8)) (hn : ¬ t / z - now / z < 8) (h2 : ¬ kk = 2) :
    (kk + 1 = 0 ∧ z * 8 = 1) ∨ (kk + 1 = 1 ∧ z * 8 = 8 ∧ 8 ≤ t - now) ∨ (kk + 1 = 2 ∧ z * 8 = 64 ∧ 8 ≤ t - now ∧ 8 ≤ t / 8 - now / 8) := by
  rcases hc with ⟨rfl, rfl⟩ | ⟨rfl, rfl, c1⟩ | ⟨rfl, rfl, c1, c2⟩ <;> omega
theorem put_rng {t now z kk : Int} (hc : (kk = 0 ∧ z = 1) ∨ (kk = 1 ∧ z = 8 ∧ 8 ≤ t - now) ∨ (kk = 2 ∧ z = 64 ∧ 8 ≤ t - now ∧ 8 ≤ t / 8 - now / 8)) (t0 : 0 ≤ t) (t1 : t ≤ 1000000000) (n0 : 0 ≤ now) (n1 : now ≤ 1000000000) :
    (0 < z ∧ z ≤ 64 ∧ 0 ≤ kk ∧ kk ≤ 2) ∧ (-9223372036854775808 ≤ t / z - now / z ∧ t / z - now / z ≤ 9223372036854775807) ∧ 0 ≤ t / z ∧ (0 ≤ t / z % 8 ∧ t / z % 8 < 8) := by
  rcases hc with ⟨rfl, rfl⟩ | ⟨rfl, rfl, c1⟩ | ⟨rfl, rfl, c1, c2⟩ <;> omega
theorem put_set {now : Int} {on : List (List TI2)} {t : TI2} {i : Nat} (h : i = plc now t.1) : (on.set i []).set i (on.getD i [] ++ [t]) = putW now on t := by
  subst h
  rw [List.set_set]
  rfl
theorem put_room {on : List (List TI2)} {i c : Nat} (h : on.length = 24) (hi : i < 24) (ht : tot on ≤ c) : (on.getD i []).length ≤ c := by
  have := tot_le (on := on) (i := i) (by omega)
  omega
theorem fold_tot {now : Int} : ∀ {l : List TI2} {on : List (List TI2)}, on.length = 24 → (l.foldl (putW now) on).length = 24 ∧ tot (l.foldl (putW now) on) = tot on + l.length
  | [], on, h => ⟨h, rfl⟩
  | t :: l, on, h => by
    obtain ⟨a1, a2⟩ := fold_tot (now := now) (l := l) (on := putW now on t) (put_lenW.trans h)
    refine ⟨a1, ?_⟩
    show tot (l.foldl (putW now) (putW now on t)) = _
    rw [a2, put_tot h, List.length_cons]; omega
theorem fire_len : ∀ {l : List TI2} {m : SM} {ids : List Int}, (l.foldl fireW (m, ids)).2.length ≤ ids.length + l.length
  | [], m, ids => Nat.le_refl _
  | t :: l, m, ids => by
    show (l.foldl fireW (fireW (m, ids) t)).2.length ≤ _
    rw [List.length_cons]
    by_cases g : mhas I64 m t.2 = true ∧ (mval I64 m t.2 : Int) = t.1
    · have e : fireW (m, ids) t = (mdel I64 m t.2, ids ++ [t.2]) := by unfold fireW; rw [if_pos g]
      rw [e]
      have := fire_len (l := l) (m := mdel I64 m t.2) (ids := ids ++ [t.2])
      rw [List.length_append, List.length_singleton] at this
      omega
    · have e : fireW (m, ids) t = (m, ids) := by unfold fireW; rw [if_neg g]
      rw [e]
      have := fire_len (l := l) (m := m) (ids := ids)
      omega
theorem doW_err {q : WM} {o : TO} (h : errK q.2.2.1 o ≠ 0) : doW q o = q := by unfold doW; rw [if_pos h]
theorem okQ_nil : okQ (0, List.replicate 24 [], [], []) 0 := by
  refine ⟨kOk_nil, ⟨by simp, fun i hi t ht => ?_⟩, fun e he => (by cases he), by decide⟩
  have e : (List.replicate 24 ([] : List TI2)).getD i [] = [] := by
    unfold List.getD
    rw [List.getElem?_replicate]
    split <;> rfl
  have ht : t ∈ (List.replicate 24 ([] : List TI2)).getD i [] := ht
  rw [e] at ht
  cases ht
theorem spk0 {n : Int} : spk n 1 0 = 0 * 8 + (n % 8).toNat := by unfold spk; simp
set_option maxHeartbeats 8000000 in
theorem e_play (x : List TO × Unit) (hp : True) (hl : LensL cPlay.as x) : E_play x := by
  obtain ⟨ops, u⟩ := x
  have hlen : ops.length ≤ 9223372036854775807 := hl.1.1
  unfold E_play
  simp only [RR_eq, R8_eq, R32_eq]
  simp (maxSteps := 10000000) only [Bool.not_eq_true', Bool.not_eq_false', Bool.not_eq_true, Bool.not_eq_false, beq_self_eq_true, decide_eq_true_eq, decide_eq_false_iff_not, Bool.not_false, Bool.not_true, beq_iff_eq, beq_eq_false_iff_ne, bne_iff_ne, ne_eq, bne_eq_false_iff_eq, holds_iff, true_and, and_true, and_self, eq_self, List.length_cons, List.length_nil, List.length_append, List.length_set, List.length_replicate, List.set_cons_zero, cond_true, cond_false, Bool.false_eq_true, Bool.true_eq_false, forall_const, false_imp_iff, imp_self, implies_true, and_imp, Decidable.not_not, Bool.and_eq_true, Bool.or_eq_true, Bool.and_eq_false_iff, Bool.or_eq_false_iff, ← List.length_eq_zero_iff, or_self, or_false, false_or, Prod.forall, Int.reduceEq, Int.reduceLT, Int.reduceLE, List.nil_append, Nat.zero_add, Int.toNat_zero, List.drop_zero, List.length_drop, List.length_take, not_true_eq_false, not_false_eq_true,  take_len, deq_iff, deq_false, pair_eta, Nat.mul_one, Nat.add_zero, Nat.zero_add]
  refine ⟨fun h => ?_, fun h4 => ⟨⟨((0, List.replicate 24 [], [], []), [], 0, ()), ?_, ?_⟩, ?_⟩⟩
  · have e : kplay ops = ([], [], 0, 2, ()) := by unfold kplay; rw [if_pos (by omega)]
    rw [e]
    exact ⟨rfl, rfl, rfl, rfl⟩
  · refine ⟨⟨by decide, by simp, rfl, okQ_nil, by decide⟩, ⟨⟨by decide, by decide⟩, ⟨by simp, fun xs hx => ?_⟩, fun a b hx => (by cases hx), by decide, fun a b hx => (by cases hx)⟩, ⟨by decide, fun a hx => (by cases hx)⟩, by decide, by decide⟩
    obtain rfl : xs = [] := (List.mem_replicate.1 hx).2
    exact ⟨by decide, fun a b hx => (by cases hx)⟩
  · exact ⟨rfl, rfl, rfl, rfl, rfl, rfl⟩
  intro now on P F e k k0 k1 hr hok he _ _ onl _ _ _ _ _ _ _ _
  have hT := okT_of hok
  have hb := hok.1
  obtain ⟨⟨b0, b1⟩, b2, b3, b4⟩ := hb
  have b0 : 0 ≤ now := b0
  have b1 : now ≤ 2000 * k := b1
  have b4 : ((P.length + F.length : Nat) : Int) ≤ k := b4
  have btot : tot on ≤ k.toNat := hT.2.2.2.2.2
  refine ⟨fun k2 => ⟨⟨⟨k0, k2⟩, ?_⟩, ?_⟩, fun k2 => ?_⟩
  · generalize opAt ops k = o at *
    intro o1 o2 o3 th ho hth _ _ _ _ r0 r1
    subst ho
    simp only [] at hth
    have hroom : (e.length + 1 ≤ 9223372036854775807 ∧ (e.length + 1 + (e.length + 1) / 4 + 192) * 8 ≤ 281474976710656) := ⟨by omega, by omega⟩
    have herr : ∀ c : Int, errK P (o1, o2, o3) = c → c ≠ 0 → (e.length + 1 ≤ 9223372036854775807 ∧ (e.length + 1 + (e.length + 1) / 4 + 192) * 8 ≤ 281474976710656) ∧ (now, on, P, F) = doW (now, on, P, F) (o1, o2, o3) ∧ e ++ [c] = e ++ [errK P (o1, o2, o3)] := fun c h1 h2 =>
      ⟨hroom, (doW_err (q := (now, on, P, F)) (by rw [h1]; exact h2)).symm, by rw [h1]⟩
    refine ⟨fun h1 => ⟨fun h2 => ?_, fun h2 h3 => ⟨fun h5 => ?_, fun h5 => ?_⟩⟩, fun h1 => ⟨fun h2 => ⟨fun h5 => ?_, fun h5 => ?_⟩, fun h2 => ⟨fun h3 => ⟨fun h5 => ?_, fun h5 h6 => ?_⟩, fun h3 => ?_⟩⟩⟩
    · exact herr 2 (err2 (.inl ⟨h1, h2⟩)) (by decide)
    · exact herr 6 (err6 h1 (by show ¬ (o3 < 1 ∨ 511 < o3); omega) (by rw [← hth]; exact h5)) (by decide)
    · have h3' : ¬ (o3 < 1 ∨ 511 < o3) := by omega
      have hm : mhas I64 P o2 = false := by rw [← hth]; exact h5
      have e0 := err_add (o := (o1, o2, o3)) h1 h3' hm
      have hdo : doW (now, on, P, F) (o1, o2, o3) = (now, putW now on (now + o3, o2), mput I64 P o2 (now + o3), F) := by
        unfold doW
        rw [if_neg (by rw [e0]; decide), if_pos h1]
      have leaf : ∀ i, i = plc now (now + o3) → ((on.getD i []).length + 1 ≤ 9223372036854775807 ∧ ((on.getD i []).length + 1 + ((on.getD i []).length + 1) / 4 + 192) * 16 ≤ 281474976710656) ∧
          (e.length + 1 ≤ 9223372036854775807 ∧ (e.length + 1 + (e.length + 1) / 4 + 192) * 8 ≤ 281474976710656) ∧
          (now, (on.set i []).set i (on.getD i [] ++ [(now + o3, o2)]), mput I64 P o2 (now + o3), F) = doW (now, on, P, F) (o1, o2, o3) ∧ e ++ [0] = e ++ [errK P (o1, o2, o3)] := fun i hi => by
        have := put_room (c := k.toNat) onl (i := i) (by rw [hi]; exact plc_lt) btot
        refine ⟨⟨by omega, by omega⟩, hroom, ?_, by rw [e0]⟩
        rw [hdo, put_set (t := (now + o3, o2)) hi]
      refine ⟨⟨by omega, by omega⟩, ⟨by omega, by omega⟩, .inl trivial, fun z kk hc _ _ _ _ => ?_⟩
      obtain ⟨⟨z0, z1, q0, q1⟩, q2, q3, q4⟩ := put_rng hc (by omega) (by omega) b0 (by omega)
      refine ⟨fun hk => ⟨⟨by omega, z0⟩, ⟨by omega, z0⟩, q2, fun hn => ⟨fun h2 => ?_, fun h2 => ⟨⟨by omega, by omega⟩, ⟨by omega, by omega⟩, put_next hc hn h2, by omega⟩⟩, fun hn => ?_⟩, fun hk => absurd (by omega) hk⟩
      · have hi := plc_at hc (.inr h2)
        exact ⟨⟨by omega, z0⟩, q3, ⟨q0, by omega⟩, q4, by rw [hi]; exact plc_lt, leaf _ hi⟩
      · have hi := plc_at hc (.inl hn)
        exact ⟨⟨by omega, z0⟩, q3, ⟨q0, by omega⟩, q4, by rw [hi]; exact plc_lt, leaf _ hi⟩
    · exact herr 3 (err3 h2 (by rw [← hth]; exact h5)) (by decide)
    · have hm : mhas I64 P o2 = true := by rw [← hth]; exact h5
      have e0 := err_can (o := (o1, o2, o3)) h2 hm
      refine ⟨hroom, ?_, by rw [e0]⟩
      unfold doW
      rw [if_neg (by rw [e0]; decide), if_neg h1, if_pos h2]
    · exact herr 2 (err2 (.inr ⟨h3, h5⟩)) (by decide)
    · have e0 := err_tick (m := P) (o := (o1, o2, o3)) h3 (by show ¬ (o3 < 0 ∨ 2000 < o3); omega)
      have hdo : doW (now, on, P, F) (o1, o2, o3) = ticksW (now, on, P, F) o3.toNat := by
        unfold doW
        rw [if_neg (by rw [e0]; decide), if_neg h1, if_neg h2]
      refine ⟨⟨by omega, rfl⟩, ?_⟩
      intro n1 on1 P1 F1 j j0 j1 hq _ _ on1l _ _ _ _ _ _
      obtain ⟨t1, t2, t3, t4⟩ := ticks_ok hT j.toNat
      rw [← hq] at t1 t2 t3 t4
      simp only [] at t2 t3 t4
      have c0 : 0 ≤ n1 := t1.1
      have c1 : tot on1 ≤ k.toNat := t1.2.2.2.2.2
      have c2 : P1.length ≤ P.length := by rw [t3]; exact List.length_filter_le _ _
      have c3 : F1.length ≤ 400 := by
        have := due_rest (m := P) (now := now + (j.toNat : Int))
        have h7 : (dueK P (now + (j.toNat : Int))).length = (dueL P (now + (j.toNat : Int))).length := sortF_len
        rw [t4, List.length_append]
        omega
      refine ⟨fun j2 => ⟨⟨by omega, by omega⟩, ?_⟩, fun j2 => ?_⟩
      · intro n hn _ _
        subst hn
        have A0 := okW_on t1.2.2.2.1
        obtain ⟨A1, A2, A3⟩ := casc2 A0 (by omega) (by split <;> omega)
        obtain ⟨B1, B2, B3⟩ := tickOn_ok t1.2.2.2.1 c0
        simp only [] at A0 A1 A2 A3 B1 B2 B3
        refine ⟨.inl trivial, ?_⟩
        intro on2 kk z hc on2l _ _ _ _ _
        refine ⟨fun hk0 => ?_, fun hk0 => ?_⟩
        · have hz : (kk = 2 ∧ z = 64) ∨ (kk = 1 ∧ z = 8) := by
            rcases hc with ⟨h, h', _⟩ | ⟨h, h', _⟩ | ⟨h, h', _⟩
            · exact .inl ⟨h, h'⟩
            · exact .inr ⟨h, h'⟩
            · omega
          have S : (n1 + 1) % z = 0 → ∀ t ∈ on2.getD (spk (n1 + 1) z kk) [], n1 + 1 ≤ t.1 ∧ t.1 ≤ n1 + 1 + 510 := by
            rcases hc with ⟨rfl, rfl, rfl⟩ | ⟨rfl, rfl, rfl⟩ | ⟨rfl, rfl, rfl⟩
            · intro g t ht
              have := spoke2 A0 (by omega) (by split <;> omega) g t ht
              omega
            · intro g t ht
              have := spoke1 A1 (by omega) (by split <;> omega) g t ht
              omega
            · omega
          have T2 : tot on2 ≤ k.toNat := by
            rcases hc with ⟨rfl, rfl, rfl⟩ | ⟨rfl, rfl, rfl⟩ | ⟨rfl, rfl, rfl⟩ <;> omega
          have N : ∀ on3, on3 = casc (n1 + 1) z kk on2 → (kk - 1 = 2 ∧ z / 8 = 64 ∧ on3 = on1) ∨ (kk - 1 = 1 ∧ z / 8 = 8 ∧ on3 = casc (n1 + 1) 64 2 on1) ∨ (kk - 1 = 0 ∧ z / 8 = 1 ∧ on3 = tickOn (n1 + 1) on1) := by
            intro on3 h3
            rcases hc with ⟨rfl, rfl, rfl⟩ | ⟨rfl, rfl, rfl⟩ | ⟨rfl, rfl, rfl⟩
            · exact .inr (.inl ⟨by omega, by omega, h3⟩)
            · exact .inr (.inr ⟨by omega, by omega, h3⟩)
            · omega
          have hq8 : 0 < z ∧ z ≤ 64 ∧ 0 ≤ (n1 + 1) / z ∧ (0 ≤ (n1 + 1) / z % 8 ∧ (n1 + 1) / z % 8 < 8) := by
            rcases hz with ⟨_, rfl⟩ | ⟨_, rfl⟩ <;> omega
          obtain ⟨z0, z1, q0, q8⟩ := hq8
          clear hc A0 A1 A2 A3 B1 B2 B3
          have hI : kk.toNat * 8 + ((n1 + 1) / z % 8).toNat = spk (n1 + 1) z kk := rfl
          have hI24 : spk (n1 + 1) z kk < 24 := spk_lt (by omega)
          have hc1 : (n1 + 1) % z = 0 → casc (n1 + 1) z kk on2 = (on2.getD (spk (n1 + 1) z kk) []).foldl (putW (n1 + 1)) (on2.set (spk (n1 + 1) z kk) []) := fun g => by unfold casc; rw [if_pos g]
          have hc2 : ¬ (n1 + 1) % z = 0 → casc (n1 + 1) z kk on2 = on2 := fun g => by unfold casc; rw [if_neg g]
          have hB : (on2.set (spk (n1 + 1) z kk) []).length = 24 := by rw [List.length_set]; exact on2l
          have hBt := tot_set (on := on2) (i := spk (n1 + 1) z kk) (ys := []) (by omega)
          rw [List.length_nil] at hBt
          simp only [hI, List.set_set]
          generalize casc (n1 + 1) z kk on2 = C at *
          generalize spk (n1 + 1) z kk = I at *
          generalize on2.getD I [] = L at *
          generalize on2.set I [] = B at *
          refine ⟨⟨by omega, z0⟩, fun hm => ⟨⟨by omega, z0⟩, q0, ⟨by omega, by omega⟩, q8, hI24, ⟨by omega, by omega⟩, q8, ⟨by omega, rfl⟩, fun on3 j3 j30 j31 hon3 on3l _ _ _ => ⟨fun j32 => ?_, fun j32 => ?_⟩⟩, fun hm => ?_⟩
          · have hmem : L.getD j3.toNat (0, 0) ∈ L := by
              rw [List.getD, List.getElem?_eq_getElem (by omega)]
              exact List.getElem_mem _
            obtain ⟨s0, s1⟩ := S hm _ hmem
            have nxt : (L.take (j3 + 1).toNat).foldl (putW (n1 + 1)) B = putW (n1 + 1) on3 (L.getD j3.toNat (0, 0)) := by
              rw [takeI_succ (0, 0) j30 j32, List.foldl_append, ← hon3]
              rfl
            have hft := (fold_tot (now := n1 + 1) (l := L.take j3.toNat) hB).2
            rw [← hon3, List.length_take] at hft
            generalize L.getD j3.toNat (0, 0) = t at *
            have leaf : ∀ i, i = plc (n1 + 1) t.1 → ((on3.getD i []).length + 1 ≤ 9223372036854775807 ∧ ((on3.getD i []).length + 1 + ((on3.getD i []).length + 1) / 4 + 192) * 16 ≤ 281474976710656) ∧
                (-9223372036854775808 ≤ j3 + 1 ∧ j3 + 1 ≤ 9223372036854775807) ∧ (0 ≤ j3 + 1 ∧ j3 + 1 ≤ (L.length : Int) ∧ on3.set i (on3.getD i [] ++ [t]) = (L.take (j3 + 1).toNat).foldl (putW (n1 + 1)) B) ∧
                ((L.length : Int) - (j3 + 1)).toNat < ((L.length : Int) - j3).toNat := fun i hi => by
              have hr := put_room (c := 400) on3l (i := i) (by rw [hi]; exact plc_lt) (by omega)
              refine ⟨⟨by omega, by omega⟩, ⟨by omega, by omega⟩, ⟨by omega, by omega, ?_⟩, by omega⟩
              rw [nxt, hi]
              rfl
            refine ⟨⟨j30, j32⟩, .inl trivial, fun z' k' hc' _ _ _ _ => ?_⟩
            obtain ⟨⟨z0', z1', q0', q1'⟩, q2', q3', q4'⟩ := put_rng hc' (by omega) (by omega) (by omega) (by omega)
            refine ⟨fun hk => ⟨⟨by omega, z0'⟩, ⟨by omega, z0'⟩, q2', fun hn => ⟨fun h2 => ?_, fun h2 => ⟨⟨by omega, by omega⟩, ⟨by omega, by omega⟩, put_next hc' hn h2, by omega⟩⟩, fun hn => ?_⟩, fun hk => absurd (by omega) hk⟩
            · have hi := plc_at hc' (.inr h2)
              exact ⟨⟨by omega, z0'⟩, q3', ⟨q0', by omega⟩, q4', by rw [hi]; exact plc_lt, leaf _ hi⟩
            · have hi := plc_at hc' (.inl hn)
              exact ⟨⟨by omega, z0'⟩, q3', ⟨q0', by omega⟩, q4', by rw [hi]; exact plc_lt, leaf _ hi⟩
          · rw [takeI_all (by omega), ← hc1 hm] at hon3
            exact ⟨⟨by omega, by omega⟩, by omega, N _ hon3, by omega⟩
          · exact ⟨⟨by omega, by omega⟩, by omega, N _ (hc2 hm).symm, by omega⟩
        · have hon : on2 = tickOn (n1 + 1) on1 := by
            rcases hc with ⟨h, _, _⟩ | ⟨h, _, _⟩ | ⟨_, _, h⟩
            · omega
            · omega
            · exact h
          subst hon
          obtain ⟨u1, u2, u3, u4, u5, u6⟩ := tick_ok t1
          simp only [] at u5
          simp only [show 0 * 8 + ((n1 + 1) % 8).toNat = spk (n1 + 1) 1 0 from spk0.symm, List.set_set]
          have hLl := put_room (c := 400) B1.1 (i := spk (n1 + 1) 1 0) (spk_lt (by omega)) (by omega)
          have hbn : burn (n1 + 1) on1 P1 = ((tickOn (n1 + 1) on1).getD (spk (n1 + 1) 1 0) []).foldl fireW (P1, []) := rfl
          generalize hL : (tickOn (n1 + 1) on1).getD (spk (n1 + 1) 1 0) [] = L at *
          refine ⟨by omega, by omega, ⟨by omega, by omega⟩, spk_lt (by omega), by omega, ⟨by omega, by omega⟩, ⟨by omega, rfl⟩, ?_⟩
          intro P2 ids j3 j30 j31 hf _ _ _ _ _
          have hil := fire_len (l := L.take j3.toNat) (m := P1) (ids := [])
          rw [← hf, List.length_take] at hil
          simp only [List.length_nil] at hil
          refine ⟨fun j32 => ?_, fun j32 => ?_⟩
          · have nxt : (L.take (j3 + 1).toNat).foldl fireW (P1, []) = fireW (P2, ids) (L.getD j3.toNat (0, 0)) := by
              rw [takeI_succ (0, 0) j30 j32, List.foldl_append, ← hf]
              rfl
            generalize L.getD j3.toNat (0, 0) = t at *
            refine ⟨⟨j30, j32⟩, fun g1 g2 => ⟨⟨by omega, by omega⟩, ⟨by omega, by omega⟩, ⟨by omega, by omega, ?_⟩, by omega⟩, fun g => ⟨⟨by omega, by omega⟩, ⟨by omega, by omega, ?_⟩, by omega⟩⟩
            · rw [nxt]
              unfold fireW
              rw [if_pos ⟨g1, g2⟩]
            · rw [nxt]
              unfold fireW
              rw [if_neg]
              rintro ⟨g1, g2⟩
              rcases g with g | g
              · have g1 : mhas I64 P2 t.2 = true := g1
                rw [g] at g1
                cases g1
              · exact g g2
          · rw [takeI_all (by omega), ← hbn] at hf
            rw [← hf] at u5
            simp only [] at u5
            have hsl : (sortI ids).length = ids.length := sortI_perm2.length_eq
            refine ⟨by show ids.length ≤ 400; omega, sort_lt u5, ⟨by omega, by simp⟩, ?_⟩
            intro F2 j4 j40 j41 hF _ _ _ _
            have hFl : F2.length = F1.length + min j4.toNat (sortI ids).length := by rw [hF, List.length_append, List.length_map, List.length_take]
            refine ⟨fun j42 => ⟨⟨j40, j42⟩, ⟨by omega, by omega⟩, ⟨by omega, by omega⟩, ⟨by omega, by omega, ?_⟩, by omega⟩, fun j42 => ⟨⟨by omega, by omega⟩, ⟨by omega, by omega, ?_⟩, by omega⟩⟩
            · rw [takeI_succ 0 j40 j42, List.map_append, hF, List.append_assoc]
              rfl
            · rw [takeI_all (by omega)] at hF
              rw [show (j + 1).toNat = j.toNat + 1 by omega]
              show _ = tickW (ticksW (now, on, P, F) j.toNat)
              rw [← hq]
              show _ = (n1 + 1, (tickOn (n1 + 1) on1).set (spk (n1 + 1) 1 0) [], (burn (n1 + 1) on1 P1).1, F1 ++ (sortI (burn (n1 + 1) on1 P1).2).map fun i => (n1 + 1, i))
              rw [← hf, hF]
      · have e1 : j.toNat = o3.toNat := by omega
        exact ⟨hroom, by rw [hdo, hq, e1], by rw [e0]⟩
    · exact herr 5 (err5 (by show o1 < 1 ∨ 3 < o1; omega)) (by decide)
  · intro now' on' P' F' e' hd he' _ _ _ _ _ _ _ _ _
    have hnx := runK_next k0 k2 hr
    obtain ⟨w1, w2⟩ := doW_law (o := opAt ops k) hok
    rw [← hd] at w1 w2
    simp only [] at w1 hnx
    rw [w1, ← he'] at hnx
    have hl' : e'.length = e.length + 1 := by rw [he']; simp
    exact ⟨⟨by omega, by omega⟩, ⟨by omega, by omega, hnx, w2, by omega⟩, by omega⟩
  · have hk : k = ops.length := by omega
    subst hk
    rw [take_len] at hr
    have e0 : kplay ops = ((runK ops).2, (runK ops).1.2.2, ((runK ops).1.2.1.length : Int), 0, ()) := by unfold kplay; rw [if_neg (by omega)]
    rw [e0, hr]
    exact ⟨by omega, rfl, rfl, rfl, rfl⟩
theorem e_law (x : List TO × Unit) (hp : True) (hl : LensL cLaw.as x) : E_law x := by
  obtain ⟨x, u⟩ := x
  unfold E_law
  simp only [Bool.not_eq_true', Bool.not_eq_false', Bool.not_eq_true, Bool.not_eq_false, beq_self_eq_true, decide_eq_true_eq, decide_eq_false_iff_not, Bool.not_false, Bool.not_true, beq_iff_eq, beq_eq_false_iff_ne, bne_iff_ne, ne_eq, bne_eq_false_iff_eq, holds_iff, true_and, and_true, and_self, eq_self, List.length_cons, List.length_nil, List.length_append, List.length_set, List.length_replicate, List.set_cons_zero, cond_true, cond_false, Bool.false_eq_true, Bool.true_eq_false, forall_const, false_imp_iff, imp_self, implies_true, and_imp, Decidable.not_not, Bool.and_eq_true, Bool.or_eq_true, Bool.and_eq_false_iff, Bool.or_eq_false_iff, ← List.length_eq_zero_iff, or_self, or_false, false_or, Prod.forall, Int.reduceEq, Int.reduceLT, Int.reduceLE, List.nil_append, Nat.zero_add, Int.toNat_zero, List.drop_zero, List.length_drop, List.length_take, not_true_eq_false, not_false_eq_true,  deq_iff, deq_false, pair_eta]
  try simp
theorem pre_law (x : HL cLaw.as) (_ : GoodL cLaw.as x) (_ : FitL cLaw.as x) : True := trivial

end Go.Proofs.Ytpnmfoojmodnlaa.Wheel
