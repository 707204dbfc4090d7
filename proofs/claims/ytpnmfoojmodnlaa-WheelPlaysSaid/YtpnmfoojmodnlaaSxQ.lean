/-
  Sx, part Q: invariants: a state that is one of an invariant's.
-/
import Derived.Test.YtpnmfoojmodnlaaSxP
namespace Go.Sx
open Go.RowKit

section
variable {w0 : Base} {w : World} {ρ : Nat → Value} {s s' : St} {a : Act}

theorem nilSlots_ok : ∀ (sl : List (Nat × SV)) (j : Nat) (s : St) (ρ : Nat → Value), Ok w0 ρ s a w → ∀ v : Inv, ∃ ρ1, Ok w0 ρ1 (nilSlots s v j sl) a w
  | [], j, s, ρ, h, v => ⟨ρ, h⟩
  | (d, x) :: r, j, s, ρ, h, v => by
    have key : ∀ t, lget s.fr d = .one (.con (.slice none 0 0)) → s.us j = false → ∃ ρ1, Ok w0 ρ1 ((s.new j (.row t [])).put (some d) (.one (.row j))) a w := fun t hl hu => by
      have hok := h.new (he := .row t []) (v := .slice none 0 0) hu (More.refl w) (fun b e => by cases e) (.inl ⟨rset_same _ _ _, rfl⟩)
      have e3 : rset ρ j (.slice none 0 0) j = .slice none 0 0 := rset_same _ _ _
      have hv := h.frame d
      rw [hl] at hv
      obtain ⟨h1, _⟩ := SVc.one1 rfl (by simp) hv
      simp only [List.cons.injEq, and_true] at h1
      refine ⟨_, hok.tell d (v := .one (.row j)) (SVc.of1 (p := .row j) rfl ⟨uset_same _ _, ?_, ?_⟩)⟩
      · show [_] = [rset ρ j _ j]
        rw [e3, h1]
      · show (rset ρ j _ j).oneCell' = true
        rw [e3]; rfl
    unfold nilSlots
    cases x with
    | one p =>
      cases p with
      | row k =>
        simp only []
        split
        · rename_i t xs hl ha
          cases hu : s.us j with
          | true => exact nilSlots_ok r (j + 1) s ρ h v
          | false =>
            obtain ⟨ρ1, h1⟩ := key t hl hu
            exact nilSlots_ok r (j + 1) _ ρ1 h1 v
        · exact nilSlots_ok r j s ρ h v
      | _ => exact nilSlots_ok r j s ρ h v
    | _ => exact nilSlots_ok r j s ρ h v

theorem PsC.repl {c : Cx} {p q : PV} (h : ∀ l, PVc c p l → PVc c q l) : ∀ {pre ps : List PV} {l : List Value}, PsC c (pre ++ (p :: ps)) l → PsC c (pre ++ (q :: ps)) l
  | [], ps, l, hp => by
    obtain ⟨a, b, e, h1, h2⟩ := hp
    exact ⟨a, b, e, h _ h1, h2⟩
  | x :: pre, ps, l, hp => by
    obtain ⟨a, b, e, h1, h2⟩ := hp
    exact ⟨a, b, e, h1, PsC.repl h h2⟩
theorem nilPs_ok (v : Inv) (k : Nat) : ∀ (ps qs pre : List PV) (j : Nat) (s : St) (ρ : Nat → Value), Ok w0 ρ s a w → s.hp k = some (.box (pre ++ ps)) → ∃ ρ1, Ok w0 ρ1 (nilPs s v k pre j ps qs) a w
  | [], _, pre, j, s, ρ, h, _ => ⟨ρ, h⟩
  | _ :: _, [], pre, j, s, ρ, h, _ => ⟨ρ, h⟩
  | p :: ps, q :: qs, pre, j, s, ρ, h, hk => by
    have step : ∃ ρ1, Ok w0 ρ1 (nilPs s v k (pre ++ [p]) j ps qs) a w := nilPs_ok v k ps qs (pre ++ [p]) j s ρ h (by rw [List.append_assoc]; exact hk)
    unfold nilPs
    split
    · rename_i n
      split
      · rename_i t xs ha
        cases hu : s.us j with
        | true => exact ⟨ρ, h⟩
        | false =>
          have hne : k ≠ j := fun e => by
            have := h.used k _ hk
            rw [e, hu] at this; cases this
          have hok := h.new (he := .row t []) (v := .slice none 0 0) hu (More.refl w) (fun b e => by cases e) (.inl ⟨rset_same _ _ _, rfl⟩)
          have e3 : rset ρ j (.slice none 0 0) j = .slice none 0 0 := rset_same _ _ _
          have hk1 : (s.new j (.row t [])).hp k = some (.box (pre ++ (.con (.slice none 0 0) :: ps))) := by
            show hset s.hp j _ k = _
            rw [hset_other _ _ hne]; exact hk
          obtain ⟨b, e, cs, h1, h2, h3⟩ := hok.heap k _ hk1
          have hle := upd_le (w' := w) (he := .box (pre ++ (.row j :: ps))) hok hk1 (fun b hb => .inl hb) (Nat.le_refl _) (fun _ _ _ => rfl)
          have hok2 := hok.upd (he := .box (pre ++ (.row j :: ps))) hk1 (fun b hb => .inl hb) (BelowS.refl _ _) (fun _ _ _ => rfl) ⟨b, e, cs, h1, h2, PsC.repl (p := .con (.slice none 0 0)) (fun l hl => by
            refine ⟨uset_same _ _, ?_, ?_⟩
            · show l = [rset ρ j _ j]
              rw [e3]; exact hl.1
            · show (rset ρ j _ j).oneCell' = true
              rw [e3]; rfl) (h3.mono hle)⟩
          obtain ⟨ρ1, h4⟩ := nilPs_ok v k ps qs (pre ++ [.row j]) (j + 1) _ _ hok2 (by rw [List.append_assoc]; exact hset_same _ _ _)
          exact ⟨ρ1, h4⟩
      · exact step
    · exact step
theorem nilHeap_ok (v : Inv) : ∀ (l : List (Nat × HE)) (j : Nat) (s : St) (ρ : Nat → Value), Ok w0 ρ s a w → ∃ ρ1, Ok w0 ρ1 (nilHeap s v j l) a w
  | [], j, s, ρ, h => ⟨ρ, h⟩
  | (k, he) :: r, j, s, ρ, h => by
    unfold nilHeap
    cases he with
    | box qs =>
      simp only []
      split
      · rename_i ps hk
        obtain ⟨ρ1, h1⟩ := nilPs_ok v k ps qs [] j s ρ h hk
        exact nilHeap_ok v r (j + qs.length) _ ρ1 h1
      · exact nilHeap_ok v r j s ρ h
    | row t xs => exact nilHeap_ok v r j s ρ h
    | clo f ps => exact nilHeap_ok v r j s ρ h
    | map kk t xs => exact nilHeap_ok v r j s ρ h
    | pmap kk xs => exact nilHeap_ok v r j s ρ h
    | mapit kk t xs q rem cur => exact nilHeap_ok v r j s ρ h
    | pool t m => exact nilHeap_ok v r j s ρ h
    | orw t xss => exact nilHeap_ok v r j s ρ h
theorem packPs_ok (k j : Nat) : ∀ (ps pre : List PV) (s : St) (ρ : Nat → Value), Ok w0 ρ s a w → s.hp k = some (.box (pre ++ ps)) → ∃ ρ1, Ok w0 ρ1 (packPs s k j pre ps) a w
  | [], pre, s, ρ, h, _ => ⟨ρ, h⟩
  | q :: post, pre, s, ρ, h, hk => by
    have step : ∃ ρ1, Ok w0 ρ1 (packPs s k j (pre ++ [q]) post) a w := packPs_ok k j post (pre ++ [q]) s ρ h (by rw [List.append_assoc]; exact hk)
    unfold packPs
    split
    · rename_i ko n i0 k0
      split
      · rename_i u xss hko
        cases hu : s.us j with
        | true => exact ⟨ρ, h⟩
        | false =>
          simp only [cond_false]
          split
          · rename_i s1 xss1 hb
            obtain ⟨b, e, cs, hρk, hheap, hps⟩ := h.heap k _ hk
            have hρk : ρ k = .pointer (some ⟨b, 0, none⟩) := hρk
            obtain ⟨hd, tl0, hcs, hp1, hp2⟩ : ∃ hd tl0, cs.toList = hd ++ tl0 ∧ PsC (cx w0 ρ s w) pre hd ∧ PsC (cx w0 ρ s w) (.orp ko n (some (i0, k0)) :: post) tl0 := by
              obtain ⟨g1, g2⟩ := hps.split
              exact ⟨_, _, (List.take_append_drop _ _).symm, g1, g2⟩
            obtain ⟨qs, tl, e2, hq, hp3⟩ := hp2
            obtain ⟨hH, hql, hq1, hown, hs1, hg0⟩ := orw_open h hko hq hb
            have hub := h.used k _ hk
            have huo := h.used ko _ hko
            obtain ⟨ys, hk0⟩ := hg0 i0 k0 rfl
            have hu0 := h.used k0 _ hk0
            have hkj : k ≠ j := fun e => by rw [e, hu] at hub; cases hub
            have hkoj : ko ≠ j := fun e => by rw [e, hu] at huo; cases huo
            have hk0j : k0 ≠ j := fun e => by rw [e, hu] at hu0; cases hu0
            have hkko : k ≠ ko := fun e => by rw [e, hko] at hk; cases hk
            have hkk0 : k ≠ k0 := fun e => by rw [e, hk0] at hk; cases hk
            have hk0o : k0 ≠ ko := fun e => by rw [e, hko] at hk0; cases hk0
            have hs1 : s1 = s.drop k0 := hs1
            subst hs1
            refine ⟨rset ρ j (.tuple qs.toArray), ?_⟩
            generalize hs' : (((s.drop k0).drop ko).new j (.orw u xss1)).upd k (.box (pre ++ (.orp j n none :: post))) = s'
            have ek : s'.hp k = some (.box (pre ++ (.orp j n none :: post))) := by rw [← hs']; exact upd_at
            have ej : s'.hp j = some (.orw u xss1) := by rw [← hs', upd_hp (fun e => hkj e.symm)]; exact new_at
            have eko : s'.hp ko = none := by rw [← hs', upd_hp (fun e => hkko e.symm), new_hp hkoj]; exact drop_at
            have ek0 : s'.hp k0 = none := by rw [← hs', upd_hp (fun e => hkk0 e.symm), new_hp hk0j, drop_hp hk0o]; exact drop_at
            have esame : ∀ n0, ¬ (n0 = k ∨ n0 = ko ∨ n0 = k0 ∨ n0 = j) → s'.hp n0 = s.hp n0 := fun n0 hn => by
              rw [← hs', upd_hp (fun e => hn (.inl e)), new_hp (fun e => hn (.inr (.inr (.inr e)))), drop_hp (fun e => hn (.inr (.inl e))), drop_hp (fun e => hn (.inr (.inr (.inl e))))]
            have eus : ∀ n0, s.us n0 = true → s'.us n0 = true := fun n0 hn => by rw [← hs']; exact uset_of hn
            have eusj : s'.us j = true := by rw [← hs']; exact uset_same _ _
            generalize hρ' : rset ρ j (.tuple qs.toArray) = ρ'
            have rj : ρ' j = .tuple qs.toArray := by rw [← hρ']; exact rset_same _ _ _
            have rold : ∀ n0, s.us n0 = true → ρ' n0 = ρ n0 := fun n0 hn => by rw [← hρ', rset_other _ _ (fun e => by rw [e, hu] at hn; cases hn)]
            have hwho : ∀ bb, Bk (.orw u xss1) (ρ' j) bb → ∃ n0 h0, (n0 = ko ∨ n0 = k0) ∧ s.hp n0 = some h0 ∧ Bk h0 (ρ n0) bb := fun bb hB => by
              obtain ⟨vs, hvs, z, hz, hzb⟩ := hB
              rw [rj] at hvs
              injection hvs with hvs
              subst hvs
              obtain ⟨n0, h0, g0, g1, g2⟩ := hown z (by simpa using hz) bb hzb
              refine ⟨n0, h0, ?_, g1, g2⟩
              rcases g0 with g0 | ⟨i1, g0⟩
              · exact .inl g0
              · injection g0 with g0
                injection g0 with _ g0
                exact .inr g0.symm
            have hap : ∀ bb, Bk (.box (pre ++ (.orp j n none :: post))) (ρ' k) bb → ¬ Bk (.orw u xss1) (ρ' j) bb := fun bb hB hB' => by
              rw [rold _ hub] at hB
              obtain ⟨n0, h0, g0, g1, g2⟩ := hwho bb hB'
              refine h.apart k n0 _ _ bb (fun e => ?_) hk g1 hB g2
              rcases g0 with e2 | e2
              · exact hkko (e.trans e2)
              · exact hkk0 (e.trans e2)
            refine h.step (fun n0 => n0 = k ∨ n0 = ko ∨ n0 = k0 ∨ n0 = j) (by rw [← hs']; rfl) (by rw [← hs']; rfl) eus rold (BelowS.refl _ _) esame (fun _ _ _ => rfl) ?_ ?_ ?_ ?_
            · intro n0 he bb hT hn hB
              refine .inl ?_
              rcases hT with rfl | rfl | rfl | rfl
              · rw [ek] at hn; injection hn with hn; subst hn
                exact ⟨n0, _, .inl rfl, hk, by rw [rold _ hub] at hB; exact hB⟩
              · rw [eko] at hn; cases hn
              · rw [ek0] at hn; cases hn
              · rw [ej] at hn; injection hn with hn; subst hn
                obtain ⟨n1, h1, g0, g1, g2⟩ := hwho bb hB
                exact ⟨n1, h1, g0.elim (fun e => .inr (.inl e)) (fun e => .inr (.inr (.inl e))), g1, g2⟩
            · intro n0 he hT hn
              rcases hT with rfl | rfl | rfl | rfl
              · exact eus _ hub
              · exact eus _ huo
              · exact eus _ hu0
              · exact eusj
            · intro n0 n1 he he' bb hne hT hT' hn hn' hB hB'
              rcases hT with rfl | rfl | rfl | rfl
              · rw [ek] at hn; injection hn with hn; subst hn
                rcases hT' with rfl | rfl | rfl | rfl
                · exact hne rfl
                · rw [eko] at hn'; cases hn'
                · rw [ek0] at hn'; cases hn'
                · rw [ej] at hn'; injection hn' with hn'; subst hn'; exact hap bb hB hB'
              · rw [eko] at hn; cases hn
              · rw [ek0] at hn; cases hn
              · rw [ej] at hn; injection hn with hn; subst hn
                rcases hT' with rfl | rfl | rfl | rfl
                · rw [ek] at hn'; injection hn' with hn'; subst hn'; exact hap bb hB' hB
                · rw [eko] at hn'; cases hn'
                · rw [ek0] at hn'; cases hn'
                · exact hne rfl
            · intro n0 he hT hn hle
              rcases hT with rfl | rfl | rfl | rfl
              · rw [ek] at hn; injection hn with hn; subst hn
                refine ⟨b, e, cs, by show ρ' n0 = _; rw [rold _ hub]; exact hρk, hheap, ?_⟩
                rw [hcs, e2]
                exact (hp1.mono hle).append (ps := pre) (qs := .orp j n none :: post) ⟨qs, tl, rfl, ⟨eusj, qs, rj, ⟨hql, hq1⟩, rfl⟩, hp3.mono hle⟩
              · rw [eko] at hn; cases hn
              · rw [ek0] at hn; cases hn
              · rw [ej] at hn; injection hn with hn; subst hn
                exact ⟨_, rj, hH.mono hle (fun _ _ _ _ => rfl)⟩
          · exact ⟨ρ, h⟩
      · exact ⟨ρ, h⟩
    · exact step
theorem isNilV_eq {v : Value} (h : isNil v = true) : v = .slice none 0 0 := by
  unfold isNil at h
  split at h
  · rfl
  · cases h
theorem takeNil_c {c : Cx} : ∀ {n : Nat} {ps post : List PV} {l : List Value}, takeNil n ps = some post → PsC c ps l → ∃ m, l = List.replicate n (.slice none 0 0) ++ m ∧ PsC c post m
  | 0, ps, post, l, h, hp => by
    injection h with h
    subst h
    exact ⟨l, rfl, hp⟩
  | n + 1, [], post, l, h, _ => by cases h
  | n + 1, p :: ps, post, l, h, hp => by
    unfold takeNil at h
    split at h
    · rename_i v
      cases hv : isNil v with
      | false => rw [hv] at h; cases h
      | true =>
        rw [hv] at h
        obtain ⟨a, b, e, h1, h2⟩ := hp
        obtain ⟨m, e2, h3⟩ := takeNil_c h h2
        have h1 : a = [v] := h1.1
        rw [isNilV_eq hv] at h1
        exact ⟨m, by rw [e, e2, h1]; rfl, h3⟩
    · cases h
theorem packNil_ok (k j : Nat) (r : List (Nat × HE)) : ∀ (qs ps pre : List PV) (s : St) (ρ : Nat → Value), Ok w0 ρ s a w → s.hp k = some (.box (pre ++ ps)) → ∃ ρ1, Ok w0 ρ1 (packNil s k j r pre ps qs) a w
  | [], ps, pre, s, ρ, h, _ => by
    refine ⟨ρ, ?_⟩
    unfold packNil
    exact h
  | q :: qs, ps, pre, s, ρ, h, hk => by
    have step : ∀ p ps', ps = p :: ps' → ∃ ρ1, Ok w0 ρ1 (packNil s k j r (pre ++ [p]) ps' qs) a w := fun p ps' e => packNil_ok k j r qs ps' (pre ++ [p]) s ρ h (by rw [List.append_assoc]; rw [e] at hk; exact hk)
    unfold packNil
    split
    · rename_i j' n
      split
      · rename_i t xss post hj hn
        cases hu : s.us j with
        | true => exact ⟨ρ, h⟩
        | false =>
          simp only [cond_false]
          have hub := h.used k _ hk
          have hkj : k ≠ j := fun e => by rw [e, hu] at hub; cases hub
          have hblk : ∀ v ∈ (List.replicate n (Value.slice none 0 0)), v = .slice none 0 0 := fun v hv => (List.mem_replicate.1 hv).2
          have h1 := h.new (he := .orw t (List.replicate n [])) (v := .tuple (List.replicate n (Value.slice none 0 0)).toArray) hu (More.refl w) (fun b hb => by
            obtain ⟨vs, hvs, z, hz, hzb⟩ := hb
            injection hvs with hvs
            subst hvs
            rw [hblk z (by simpa using hz)] at hzb
            cases hzb) ⟨List.replicate n (.slice none 0 0), rset_same _ _ _, by simp, fun i v xs hv hx => .inl ⟨hblk v (List.mem_iff_getElem?.2 ⟨i, hv⟩), (List.mem_replicate.1 (List.mem_iff_getElem?.2 ⟨i, hx⟩)).2⟩, by
              rw [List.pairwise_replicate]
              exact .inr fun b hb => by cases hb⟩
          refine ⟨rset ρ j (.tuple (List.replicate n (Value.slice none 0 0)).toArray), ?_⟩
          have hk1 : (s.new j (.orw t (List.replicate n []))).hp k = some (.box (pre ++ ps)) := by rw [new_hp hkj]; exact hk
          have hB : ∀ b, Bk (.box (pre ++ (.orp j n none :: post))) (rset ρ j (.tuple (List.replicate n (Value.slice none 0 0)).toArray) k) b → Bk (.box (pre ++ ps)) (rset ρ j (.tuple (List.replicate n (Value.slice none 0 0)).toArray) k) b ∨ (w.heap.size ≤ b ∧ b < w.heap.size) := fun b hb => .inl hb
          have hle := upd_le h1 hk1 (he := .box (pre ++ (.orp j n none :: post))) hB (Nat.le_refl _) (fun _ _ _ => rfl)
          refine h1.upd hk1 hB (BelowS.refl _ _) (fun _ _ _ => rfl) ?_
          obtain ⟨b, e, cs, g1, g2, g3⟩ := h1.heap k _ hk1
          obtain ⟨p1, p2⟩ := g3.split
          obtain ⟨m, e2, p3⟩ := takeNil_c hn p2
          refine ⟨b, e, cs, g1, g2, ?_⟩
          rw [← List.take_append_drop (psSize pre) cs.toList, e2]
          refine (p1.mono hle).append (ps := pre) (qs := .orp j n none :: post) ⟨_, m, rfl, ⟨uset_same _ _, List.replicate n (.slice none 0 0), rset_same _ _ _, ⟨by simp, fun v hv => ?_⟩, rfl⟩, p3.mono hle⟩
          rw [hblk v hv]; rfl
      · exact ⟨ρ, h⟩
    · split
      · exact step _ _ rfl
      · exact ⟨ρ, h⟩
theorem packNilAt_ok (k j : Nat) (r : List (Nat × HE)) (qs : List PV) (s : St) (ρ : Nat → Value) (h : Ok w0 ρ s a w) : ∃ ρ1, Ok w0 ρ1 (packNilAt s k j r qs) a w := by
  unfold packNilAt
  split
  · rename_i ps hk
    exact packNil_ok k j r qs ps [] s ρ h hk
  · exact ⟨ρ, h⟩
theorem packHeap_ok : ∀ (l : List (Nat × HE)) (j : Nat) (s : St) (ρ : Nat → Value), Ok w0 ρ s a w → ∃ ρ1, Ok w0 ρ1 (packHeap s j l) a w
  | [], j, s, ρ, h => ⟨ρ, h⟩
  | (k, he) :: r, j, s, ρ, h => by
    unfold packHeap
    cases he with
    | box qs =>
      simp only []
      split
      · rename_i ps hk
        obtain ⟨ρ1, h1⟩ := packPs_ok k j ps [] s ρ h hk
        obtain ⟨ρ2, h2⟩ := packNilAt_ok k (j + 300000) r qs _ ρ1 h1
        exact packHeap_ok r (j + 1) _ ρ2 h2
      · exact packHeap_ok r j s ρ h
    | row t xs => exact packHeap_ok r j s ρ h
    | clo f ps => exact packHeap_ok r j s ρ h
    | map kk t xs => exact packHeap_ok r j s ρ h
    | pmap kk xs => exact packHeap_ok r j s ρ h
    | mapit kk t xs q rem cur => exact packHeap_ok r j s ρ h
    | pool t m =>
      simp only []
      split
      · rename_i hk
        cases hus : s.us k with
        | true => exact packHeap_ok r j s ρ h
        | false =>
          exact packHeap_ok r j _ _ (h.new (he := .pool t []) (v := undef) hus (More.refl w) (fun b hb => by obtain ⟨e, he, _⟩ := hb; cases he) ⟨List.nodup_nil, fun e he => (by cases he)⟩)
      · exact packHeap_ok r j s ρ h
    | orw t xss => exact packHeap_ok r j s ρ h

theorem lget_anys : ∀ (fr : List SV) (i : Nat), lget (anys fr) i = .one .any
  | [], _ => rfl
  | _ :: _, 0 => rfl
  | _ :: r, i + 1 => lget_anys r i
theorem anys_length : ∀ (fr : List SV), (anys fr).length = fr.length
  | [] => rfl
  | _ :: r => by simp [anys, anys_length r]
theorem setSlots_length : ∀ (sl : List (Nat × SV)) (fr : List SV), (setSlots fr sl).length = fr.length
  | [], _ => rfl
  | (d, v) :: r, fr => by rw [setSlots, setSlots_length r, lset_length]
theorem sameLen_eq : ∀ {x y : List SV}, sameLen x y = true → x.length = y.length
  | [], [], _ => rfl
  | _ :: r, _ :: q, h => by simp [sameLen_eq (x := r) (y := q) h]
  | [], _ :: _, h => by cases h
  | _ :: _, [], h => by cases h
theorem memN_iff : ∀ {l : List Nat} {n : Nat}, memN n l = true ↔ n ∈ l
  | [], n => by simp [memN]
  | k :: r, n => by
    unfold memN
    by_cases e : n = k
    · subst e; simp
    · rw [beq_ne e]; simp [memN_iff (l := r), e]

/-- Every slot that is set is one of the list's. -/
theorem lget_setSlots : ∀ (sl : List (Nat × SV)) (fr : List SV) (i : Nat), lget (setSlots fr sl) i = lget fr i ∨ (∃ v, (i, v) ∈ sl ∧ lget (setSlots fr sl) i = v) ∨ lget (setSlots fr sl) i = .one .any
  | [], fr, i => .inl rfl
  | (d, v) :: r, fr, i => by
    rcases lget_setSlots r (lset fr d v) i with h | ⟨u, hu, h⟩ | h
    · by_cases e : d = i
      · subst e
        rw [lget_lset_eq] at h
        by_cases hd : d < fr.length
        · rw [if_pos hd] at h
          exact .inr (.inl ⟨v, by simp, h⟩)
        · rw [if_neg hd] at h
          exact .inr (.inr h)
      · rw [lget_lset_ne _ _ _ _ e] at h
        exact .inl h
    · exact .inr (.inl ⟨u, by simp [hu], h⟩)
    · exact .inr (.inr h)

theorem assoc_mem : ∀ {l : List (Nat × HE)} {k : Nat} {h : HE}, assoc l k = some h → (k, h) ∈ l
  | [], _, _, e => by cases e
  | (j, g) :: r, k, h, e => by
    unfold assoc at e
    by_cases ek : k = j
    · subst ek
      rw [show Nat.beq k k = true from by simp] at e
      simp only [cond_true, Option.some.injEq] at e
      subst e; simp
    · rw [beq_ne ek] at e
      exact List.mem_cons_of_mem _ (assoc_mem e)

theorem leSlots_mem {σ : Ren} : ∀ {sl : List (Nat × SV)}, leSlots σ s sl → ∀ {d v}, (d, v) ∈ sl → leSV σ (lget s.fr d) v
  | [], _, _, _, h => by cases h
  | (d', v') :: r, h, d, v, hm => by
    rcases List.mem_cons.1 hm with e | hm
    · simp only [Prod.mk.injEq] at e
      obtain ⟨rfl, rfl⟩ := e
      exact h.1
    · exact leSlots_mem h.2 hm
theorem leHeap_mem {σ : Ren} : ∀ {hl : List (Nat × HE)}, leHeap σ s hl → ∀ {k h}, (k, h) ∈ hl → ∃ h', s.hp (σ.at k) = some h' ∧ leHE σ h' h
  | [], _, _, _, h => by cases h
  | (k', g) :: r, h, k, g', hm => by
    rcases List.mem_cons.1 hm with e | hm
    · simp only [Prod.mk.injEq] at e
      obtain ⟨rfl, rfl⟩ := e
      have h1 := h.1
      split at h1
      · rename_i h' e; exact ⟨h', e, h1⟩
      · exact h1.elim
    · exact leHeap_mem h.2 hm
theorem okSlots_mem {v : Inv} : ∀ {sl : List (Nat × SV)} {seen : List Nat}, okSlots v sl seen = true → ∀ {d x}, (d, x) ∈ sl → okSV v x = true
  | [], _, _, _, _, h => by cases h
  | (d', x') :: r, seen, h, d, x, hm => by
    unfold okSlots at h
    cases h1 : memN d' seen with
    | true => rw [h1] at h; cases h
    | false =>
      rw [h1] at h
      simp only [cond_false] at h
      cases h2 : okSV v x' with
      | false => rw [h2] at h; cases h
      | true =>
        rw [h2] at h
        simp only [cond_true] at h
        rcases List.mem_cons.1 hm with e | hm
        · simp only [Prod.mk.injEq] at e
          obtain ⟨rfl, rfl⟩ := e
          exact h2
        · exact okSlots_mem h hm
def okHE (v : Inv) : HE → Bool
  | .box ps => okPs v ps
  | .clo _ ps => okPs v ps
  | .row _ _ => true
  | .map _ _ _ => true
  | .mapit _ _ _ _ _ _ => true
  | .pool _ _ => true
  | .orw _ _ => true
  | .pmap _ _ => false
theorem okHeap_mem {v : Inv} : ∀ {hl : List (Nat × HE)} {seen : List Nat}, okHeap v hl seen = true → ∀ {k h}, (k, h) ∈ hl → okHE v h = true
  | [], _, _, _, _, h => by cases h
  | (k', g) :: r, seen, h, k, g', hm => by
    have h' : memN k' seen = false ∧ okHE v g = true ∧ okHeap v r (k' :: seen) = true := by
      by_cases hpm : ∃ kk es, g = .pmap kk es
      · obtain ⟨kk, es, rfl⟩ := hpm
        cases h
      cases g <;> (try exact absurd ⟨_, _, rfl⟩ hpm) <;> unfold okHeap at h <;> cases h1 : memN k' seen <;> rw [h1] at h <;> simp only [cond_false, cond_true, Bool.false_eq_true] at h
      · rename_i ps
        cases h2 : okPs v ps with
        | false => rw [h2] at h; cases h
        | true => rw [h2] at h; exact ⟨rfl, h2, h⟩
      · exact ⟨rfl, rfl, h⟩
      · rename_i ps
        cases h2 : okPs v ps with
        | false => rw [h2] at h; cases h
        | true => rw [h2] at h; exact ⟨rfl, h2, h⟩
      · exact ⟨rfl, rfl, h⟩
      · exact ⟨rfl, rfl, h⟩
      · exact ⟨rfl, rfl, h⟩
      · exact ⟨rfl, rfl, h⟩
    rcases List.mem_cons.1 hm with e | hm
    · simp only [Prod.mk.injEq] at e
      obtain ⟨rfl, rfl⟩ := e
      exact h'.2.1
    · exact okHeap_mem h'.2.2 hm
theorem injN_inj {σ : Ren} : ∀ {hl : List (Nat × HE)} {seen : List Nat}, injN σ hl seen = true → (∀ k h, (k, h) ∈ hl → σ.at k ∉ seen) ∧ ∀ k h k' h', (k, h) ∈ hl → (k', h') ∈ hl → σ.at k = σ.at k' → k = k'
  | [], _, _ => ⟨fun _ _ h => (by cases h), fun _ _ _ _ h => (by cases h)⟩
  | (j, g) :: r, seen, h => by
    unfold injN at h
    cases h1 : memN (σ.at j) seen with
    | true => rw [h1] at h; cases h
    | false =>
      rw [h1] at h
      simp only [cond_false] at h
      obtain ⟨h2, h3⟩ := injN_inj h
      have h1' : σ.at j ∉ seen := fun e => by rw [memN_iff.2 e] at h1; cases h1
      refine ⟨fun k g' hm => ?_, fun k g1 k' g2 hm hm' e => ?_⟩
      · rcases List.mem_cons.1 hm with e | hm
        · simp only [Prod.mk.injEq] at e
          obtain ⟨rfl, rfl⟩ := e
          exact h1'
        · exact fun e => h2 k g' hm (List.mem_cons_of_mem _ e)
      · rcases List.mem_cons.1 hm with e1 | hm
        · simp only [Prod.mk.injEq] at e1
          obtain ⟨rfl, rfl⟩ := e1
          rcases List.mem_cons.1 hm' with e2 | hm'
          · simp only [Prod.mk.injEq] at e2
            exact e2.1.symm
          · exact absurd (by rw [e]; simp) (h2 k' g2 hm')
        · rcases List.mem_cons.1 hm' with e2 | hm'
          · simp only [Prod.mk.injEq] at e2
            exact absurd (by rw [e, e2.1]; simp) (h2 k g1 hm)
          · exact h3 k g1 k' g2 hm hm' e

/-! ### Parts that are as the invariant's. 'c': the state's, 'c'': the invariant's. -/
structure Over (σ : Ren) (v : Inv) (c c' : Cx) : Prop where
  ρ : ∀ k, c'.ρ k = c.ρ (σ.at k)
  us : ∀ k, (assoc v.heap k).isSome = true → c'.us k = true
  keep : Keeps c.S c.w c'.S c'.w

theorem isNil_eq {v : Value} (h : isNil v = true) : v = .slice none 0 0 := by
  unfold isNil at h
  split at h
  · rfl
  · cases h
theorem eqN_eq {a b : Nat} (h : eqN a b) : a = b := by
  unfold eqN at h
  split at h
  · rename_i e; exact Nat.eq_of_beq_eq_true e
  · exact h.elim
theorem lePV_c {σ : Ren} {v : Inv} {c c' : Cx} (h : Over σ v c c') {p q : PV} {l : List Value} (hle : lePV σ p q) (hq : okPV v q = true) (hp : PVc c p l) : PVc c' q l := by
  cases q with
  | any =>
    have hg : p.agg = false := by
      simp only [lePV] at hle
      cases e : p.agg with
      | true => rw [e] at hle; exact hle.elim
      | false => rfl
    have hl := hp.len
    have h1 := hp.one
    have hsz : p.size = 1 := by
      cases p with
      | d t x => cases t <;> first | rfl | cases hg
      | orp k n g => cases hg
      | _ => rfl
    rw [hsz] at hl
    match l, hl with
    | [u], _ => exact ⟨u, rfl, h1 u (by simp)⟩
  | d u y =>
    cases p with
    | d t x =>
      have hle : leD t x u y := hle
      unfold leD at hle
      split at hle
      · rename_i x' e
        subst hle
        obtain ⟨e2, rfl⟩ := castD_eq e
        subst e2
        exact Rd.mono h.keep hp
      · exact hle.elim
    | lit b =>
      have hle : leLit b u y := hle
      cases u <;> first | exact hle.elim | skip
      have hle : b = y := hle
      subst hle; exact hp
    | con z =>
      have hle : leNil z u y := hle
      cases u with
      | sl t =>
        have hle : (match isNil z with
          | true => y = []
          | false => False) := hle
        cases e : isNil z with
        | true =>
          rw [e] at hle
          have hz := isNil_eq e
          subst hz
          have hle : y = [] := hle
          subst hle
          exact ⟨none, 0, hp.1, Nat.le_refl _, by simp [maxLen], fun h => absurd h (by simp)⟩
        | false => rw [e] at hle; exact hle.elim
      | ref q =>
        have hle : (match isNilP z with
          | true => (y : Int) = -1
          | false => False) := hle
        cases e : isNilP z with
        | true =>
          rw [e] at hle
          have hz : z = .pointer none := by
            unfold isNilP at e
            split at e
            · rfl
            · cases e
          subst hz
          have hle : y = (-1 : Int) := hle
          subst hle
          exact .inl ⟨rfl, hp.1⟩
        | false => rw [e] at hle; exact hle.elim
      | err =>
        have hle : (match isNilI z with
          | true => (y : Bool) = false
          | false => False) := hle
        cases e : isNilI z with
        | true =>
          rw [e] at hle
          have hz : z = .nilIface := by
            unfold isNilI at e
            split at e
            · rfl
            · cases e
          subst hz
          have hle : y = false := hle
          subst hle
          exact .inl ⟨rfl, hp.1⟩
        | false => rw [e] at hle; exact hle.elim
      | _ => exact (hle : False).elim
    | opt q a off =>
      have hle : leRef q a off u y := hle
      cases u with
      | ref q2 =>
        obtain ⟨_, e2, e3⟩ : eqN q q2 ∧ eqN off 0 ∧ a = y := hle
        have e2 := eqN_eq e2
        subst e2; subst e3
        exact .inr hp
      | _ => exact (hle : False).elim
    | _ => exact (hle : False).elim
  | itr k r =>
    cases p with
    | itr k' r' =>
      have e : r' = r := hle.2
      subst e
      exact hp
    | _ => exact (hle : False).elim
  | opt q a off =>
    cases p with
    | opt q' a' off' =>
      obtain ⟨⟨_, e1⟩, e2⟩ : (eqN q' q ∧ eqN off' off) ∧ a' = a := hle
      have e1 := eqN_eq e1
      subst e1; subst e2
      exact hp
    | _ => exact (hle : False).elim
  | oel q a off n sz i j => exact (hle : False).elim
  | orp k n g =>
    cases g with
    | some e => exact (hle : False).elim
    | none =>
      cases p with
      | orp k' n' g' =>
        cases g' with
        | some e => exact (hle : False).elim
        | none =>
          obtain ⟨e1, e2⟩ : eqN (σ.at k) k' ∧ eqN n' n := hle
          have e1 := eqN_eq e1
          have e2 := eqN_eq e2
          subst e1; subst e2
          exact ⟨h.us k hq, by rw [h.ρ k]; exact hp.2⟩
      | _ => exact (hle : False).elim
  | lit b =>
    cases p with
    | lit b' => have hle : b' = b := hle; subst hle; exact hp
    | _ => exact (hle : False).elim
  | con u =>
    cases p with
    | con u' => have hle : u' = u := hle; subst hle; exact hp
    | _ => exact (hle : False).elim
  | row k =>
    cases p with
    | row j =>
      have hle : σ.at k = j := eqN_eq hle
      subst hle
      exact ⟨h.us k hq, by rw [h.ρ k]; exact hp.2⟩
    | _ => exact (hle : False).elim
  | ptr k o =>
    cases p with
    | ptr j o' =>
      obtain ⟨hle1, rfl⟩ : σ.at k = j ∧ o' = o := ⟨eqN_eq hle.1, eqN_eq hle.2⟩
      subst hle1
      exact ⟨h.us k hq, by rw [h.ρ k]; exact hp.2⟩
    | _ => exact (hle : False).elim
  | clo k =>
    cases p with
    | clo j =>
      have hle : σ.at k = j := eqN_eq hle
      subst hle
      exact ⟨h.us k hq, by rw [h.ρ k]; exact hp.2⟩
    | _ => exact (hle : False).elim
  | rea k sz i j n' sz' i' j' => exact (hle : False).elim
  | pea k off n sz i j n' sz' i' j' => exact (hle : False).elim
  | sub k k' sz x y => exact (hle : False).elim
  | bsl k off n sz => exact (hle : False).elim
  | rel k sz i j =>
    cases p with
    | rel k' sz' i' j' =>
      obtain ⟨⟨e1, e2, e3⟩, rfl⟩ : (σ.at k = k' ∧ sz' = sz ∧ j' = j) ∧ i' = i := ⟨⟨eqN_eq hle.1.1, eqN_eq hle.1.2.1, eqN_eq hle.1.2.2⟩, hle.2⟩
      subst e1 e2 e3
      exact ⟨h.us k hq, by rw [h.ρ k]; exact hp.2⟩
    | _ => exact (hle : False).elim
  | pel k off n sz i j =>
    cases p with
    | pel k' off' n' sz' i' j' =>
      obtain ⟨⟨e1, e2, e3, e4, e5⟩, rfl⟩ : (σ.at k = k' ∧ off' = off ∧ n' = n ∧ sz' = sz ∧ j' = j) ∧ i' = i :=
        ⟨⟨eqN_eq hle.1.1, eqN_eq hle.1.2.1, eqN_eq hle.1.2.2.1, eqN_eq hle.1.2.2.2.1, eqN_eq hle.1.2.2.2.2⟩, hle.2⟩
      subst e1 e2 e3 e4 e5
      exact ⟨h.us k hq, by rw [h.ρ k]; exact hp.2⟩
    | _ => exact (hle : False).elim
  | dpl t x => cases hq

theorem lePs_c {σ : Ren} {v : Inv} {c c' : Cx} (h : Over σ v c c') : ∀ {ps qs : List PV} {l : List Value}, lePs σ ps qs → okPs v qs = true → PsC c ps l → PsC c' qs l
  | [], [], l, _, _, hp => hp
  | p :: ps, q :: qs, l, hle, hq, hp => by
    obtain ⟨l1, l2, e, h1, h2⟩ := hp
    unfold okPs at hq
    cases hq1 : okPV v q with
    | false => rw [hq1] at hq; cases hq
    | true =>
      rw [hq1] at hq
      exact ⟨l1, l2, e, lePV_c h hle.1 hq1 h1, lePs_c h hle.2 hq h2⟩
  | [], _ :: _, _, hle, _, _ => hle.elim
  | _ :: _, [], _, hle, _, _ => hle.elim
theorem lePs_len {σ : Ren} : ∀ {ps qs : List PV}, lePs σ ps qs → ps.length = qs.length
  | [], [], _ => rfl
  | _ :: ps, _ :: qs, h => by simp [lePs_len h.2]
  | [], _ :: _, h => h.elim
  | _ :: _, [], h => h.elim
theorem lePV_agg {σ : Ren} {p q : PV} (h : lePV σ p q) (hp : p.agg = false) : q.agg = false := by
  cases q with
  | d u y =>
    cases p with
    | d t x =>
      have hle : leD t x u y := h
      unfold leD at hle
      split at hle
      · rename_i x' e
        obtain ⟨e2, _⟩ := castD_eq e
        subst e2; exact hp
      · exact hle.elim
    | lit b => have hle : leLit b u y := h; cases u <;> first | exact hle.elim | rfl
    | con z => have hle : leNil z u y := h; cases u <;> first | rfl | exact (hle : False).elim
    | opt q a off => have hle : leRef q a off u y := h; cases u <;> first | rfl | exact (hle : False).elim
    | _ => exact (h : False).elim
  | orp k n g =>
    cases g with
    | some e => exact (h : False).elim
    | none =>
      cases p with
      | orp k' n' g' => cases hp
      | _ => exact (h : False).elim
  | _ => rfl
theorem lePs_agg {σ : Ren} : ∀ {ps qs : List PV}, lePs σ ps qs → (∀ p ∈ ps, p.agg = false) → ∀ q ∈ qs, q.agg = false
  | [], [], _, _ => by simp
  | p :: ps, q :: qs, h, hp => by
    intro x hx
    rcases List.mem_cons.1 hx with e | hx
    · subst e; exact lePV_agg h.1 (hp p (by simp))
    · exact lePs_agg h.2 (fun y hy => hp y (by simp [hy])) x hx
  | [], _ :: _, h, _ => h.elim
  | _ :: _, [], h, _ => h.elim

theorem leSV_c {σ : Ren} {v : Inv} {c c' : Cx} (h : Over σ v c c') {x y : SV} {u : Value} (hle : leSV σ x y) (hy : okSV v y = true) (hx : SVc c x u) : SVc c' y u := by
  cases y with
  | one q =>
    by_cases hq : q = .any
    · subst hq; trivial
    · cases x with
      | one p =>
        have hle' : lePV σ p q := by cases q <;> first | exact absurd rfl hq | exact hle
        have hpn : p ≠ .any := fun e => by subst e; cases q <;> first | exact absurd rfl hq | exact (hle' : False).elim | (rename_i g; cases g <;> exact (hle' : False).elim)
        cases hg : p.agg with
        | false => exact SVc.of1 (lePV_agg hle' hg) (lePV_c h hle' hy (SVc.one1 hg hpn hx))
        | true =>
          cases p with
          | d t z =>
            cases q with
            | d t' z' =>
              have hle2 : leD t z t' z' := hle'
              unfold leD at hle2
              split at hle2
              · rename_i x' e
                subst hle2
                obtain ⟨e2, rfl⟩ := castD_eq e
                subst e2
                have hx' : aggC c t.agg [.d t z] u := hx
                show aggC c' t.agg [.d t z] u
                rw [show t.agg = true from hg] at hx' ⊢
                obtain ⟨cs, e1, l1, l2, e2, h1, h2⟩ := hx'
                exact ⟨cs, e1, l1, l2, e2, Rd.mono h.keep h1, h2⟩
              · exact hle2.elim
            | any => exact absurd rfl hq
            | orp k n g => cases g <;> exact (hle' : False).elim
            | _ => exact (hle' : False).elim
          | orp k1 n1 g1 =>
            have hx' : aggC c true [.orp k1 n1 g1] u := hx
            obtain ⟨cs, e1, l1, l2, e2, h1, h2⟩ := hx'
            have h3 := lePV_c h hle' hy h1
            cases q with
            | any => exact absurd rfl hq
            | orp k n g => exact (⟨cs, e1, l1, l2, e2, h3, h2⟩ : aggC c' true [.orp k n g] u)
            | _ => exact (hle' : False).elim
          | _ => cases hg
      | agg ps => cases q <;> first | exact absurd rfl hq | exact (hle : False).elim
      | tup es => cases q <;> first | exact absurd rfl hq | exact (hle : False).elim
      | cnd b p => cases q <;> first | exact absurd rfl hq | exact (hle : False).elim
  | agg qs =>
    cases x with
    | agg ps => obtain ⟨cs, e, hp⟩ := hx; exact ⟨cs, e, lePs_c h hle hy hp⟩
    | one p =>
      have hle2 : (match p.agg with
        | true => lePs σ p.parts qs
        | false => False) := hle
      cases hg : p.agg with
      | false => rw [hg] at hle2; exact hle2.elim
      | true =>
        rw [hg] at hle2
        cases p with
        | d t z =>
          have hx' : aggC c t.agg [.d t z] u := hx
          rw [show t.agg = true from hg] at hx'
          obtain ⟨cs, e, hp⟩ := hx'
          exact ⟨cs, e, lePs_c h hle2 hy (by have := psParts_c hp; simpa [psParts] using this)⟩
        | orp k1 n1 g1 =>
          have hx' : aggC c true [.orp k1 n1 g1] u := hx
          obtain ⟨cs, e, hp⟩ := hx'
          exact ⟨cs, e, lePs_c h hle2 hy hp⟩
        | _ => cases hg
    | tup es => exact (hle : False).elim
    | cnd b p => exact (hle : False).elim
  | tup es =>
    cases es with
    | nil =>
      cases x with
      | tup fs =>
        cases fs with
        | nil => exact hx
        | cons _ _ => exact (hle : False).elim
      | one p => exact (hle : False).elim
      | agg ps => exact (hle : False).elim
      | cnd b p => exact (hle : False).elim
    | cons e es => cases hy
  | cnd b p => cases hy

theorem MapC.keep {c c' : Cx} (h : Keeps c.S c.w c'.S c'.w) {kk : IntKind} {t : Ty} : ∀ {es : List MapEntry} {xs : List (Int × t.D)}, MapC c kk t es xs → MapC c' kk t es xs
  | [], [], _ => trivial
  | _ :: _, _ :: _, ⟨⟨h1, h2, h3⟩, h4⟩ => ⟨⟨h1, h2, Rd.mono h h3⟩, MapC.keep h h4⟩
  | [], _ :: _, h' => h'.elim
  | _ :: _, [], h' => h'.elim
theorem leHE_c {σ : Ren} {v : Inv} {c c' : Cx} (h : Over σ v c c') (hw : c'.w = c.w) {k : Nat} {x y : HE} (hle : leHE σ x y) (hy : okHE v y = true) (hx : HEc c (σ.at k) x) : HEc c' k y := by
  cases y with
  | box qs =>
    cases x with
    | box ps =>
      obtain ⟨b, e, cs, h1, h2, h3⟩ := hx
      exact ⟨b, e, cs, by rw [h.ρ k]; exact h1, by rw [hw]; exact h2, lePs_c h hle hy h3⟩
    | _ => exact (hle : False).elim
  | clo g qs =>
    cases x with
    | clo f ps =>
      obtain ⟨rfl, hlp⟩ : f = g ∧ lePs σ ps qs := ⟨eqN_eq hle.1, hle.2⟩
      obtain ⟨vs, h1, h2, h3, h4⟩ := hx
      exact ⟨vs, by rw [h.ρ k]; exact h1, lePs_c h hlp hy h2, by rw [← h3]; exact (lePs_len hlp).symm, lePs_agg hlp h4⟩
    | _ => exact (hle : False).elim
  | row u ys =>
    cases x with
    | row t xs =>
      simp only [leHE] at hle
      split at hle
      · rename_i xs' e
        subst hle
        obtain ⟨e2, e3⟩ := castD_eq e
        injection e2 with e2
        subst e2
        have e3 : xs = xs' := e3
        subst e3
        rcases hx with ⟨h1, h2⟩ | ⟨b, o, cp, cur, e, h1, h2, h3, h4, h5, h6⟩
        · exact .inl ⟨by rw [h.ρ k]; exact h1, h2⟩
        · exact .inr ⟨b, o, cp, cur, e, by rw [h.ρ k]; exact h1, by rw [hw]; exact h2, h3, h4, h5, fun i x hx => Rd.mono h.keep (h6 i x hx)⟩
      · exact hle.elim
    | _ => exact (hle : False).elim
  | map kk u ys =>
    cases x with
    | map kk' t xs =>
      simp only [leHE] at hle
      split at hle
      · rename_i xs' e
        subst hle
        unfold castM at e
        split at e
        · rename_i he
          obtain ⟨rfl, rfl⟩ := he
          cases e
          obtain ⟨b, es, cl, h1, h2, h3, h4⟩ := hx
          exact ⟨b, es, cl, by rw [h.ρ k]; exact h1, by rw [hw]; exact h2, MapC.keep h.keep h3, h4⟩
        · cases e
      · exact hle.elim
    | mapit kk' t xs r rem cur =>
      simp only [leHE] at hle
      split at hle
      · rename_i xs' e
        subst hle
        unfold castM at e
        split at e
        · rename_i he
          obtain ⟨rfl, rfl⟩ := he
          cases e
          obtain ⟨b, es, cl, seen, h1, ⟨h2, _⟩, h3, h4, _⟩ := hx
          exact ⟨b, es, cl, by rw [h.ρ k]; exact h1, by rw [hw]; exact h2, MapC.keep h.keep h3, h4⟩
        · cases e
      · exact hle.elim
    | _ => exact (hle : False).elim
  | mapit kk u ys r rem cur =>
    cases x with
    | mapit kk' t xs r' rem' cur' =>
      cases cur with
      | some z => exact (hle : False).elim
      | none =>
        simp only [leHE] at hle
        split at hle
        · rename_i xs' rem'' e e'
          obtain ⟨rfl, rfl, rfl⟩ := hle
          obtain ⟨rfl, rfl, e⟩ := castM_eq e
          obtain ⟨_, _, e'⟩ := castM_eq e'
          have e : xs = xs' := e
          have e' : rem' = rem'' := e'
          subst e; subst e'
          obtain ⟨b, es, cl, seen, h1, h2, h3, h4, h5, _⟩ := hx
          exact ⟨b, es, cl, seen, by rw [h.ρ k]; exact h1, by rw [hw]; exact h2, MapC.keep h.keep h3, h4, MapC.keep h.keep h5, fun x hx => by cases hx⟩
        · exact hle.elim
    | _ => exact (hle : False).elim
  | pool u m =>
    cases x with
    | pool t m' =>
      simp only [leHE] at hle
      split at hle
      · rename_i m'' e
        subst hle
        obtain ⟨_, rfl, e⟩ := castM_eq e
        have e : m' = m'' := e
        subst e
        refine ⟨hx.1, fun e he => ?_⟩
        obtain ⟨g0, ty, cs, g1, g2⟩ := hx.2 e he
        exact ⟨g0, ty, cs, by rw [hw]; exact g1, Rd.mono h.keep g2⟩
      · exact hle.elim
    | _ => exact (hle : False).elim
  | orw u yss =>
    cases x with
    | orw t xss =>
      simp only [leHE] at hle
      split at hle
      · rename_i xss' e
        subst hle
        obtain ⟨e2, e3⟩ := castD_eq e
        injection e2 with e2
        injection e2 with e2
        subst e2
        have e3 : xss = xss' := e3
        subst e3
        obtain ⟨vs, h1, h2, h3, h4⟩ := hx
        refine ⟨vs, by rw [h.ρ k]; exact h1, h2, fun i z xs hz hxs => ?_, h4⟩
        rcases h3 i z xs hz hxs with g | ⟨b, o, cp, cur, e, g1, g2, g3, g4, g5, g6⟩
        · exact .inl g
        · exact .inr ⟨b, o, cp, cur, e, g1, by rw [hw]; exact g2, g3, g4, g5, fun i x hx => Rd.mono h.keep (g6 i x hx)⟩
      · exact hle.elim
    | _ => exact (hle : False).elim
  | pmap kk ys => cases hy
/-- What it owns. -/
theorem leHE_bk {σ : Ren} {x y : HE} (hle : leHE σ x y) {v : Value} {b : Nat} (hb : Bk y v b) : Bk x v b := by
  cases y with
  | box qs => cases x <;> first | exact (hle : False).elim | exact hb
  | clo g qs => cases x <;> first | exact (hle : False).elim | exact hb
  | row u ys => cases x <;> first | exact (hle : False).elim | exact hb
  | map kk u ys => cases x <;> first | exact (hle : False).elim | exact hb | exact .inl hb
  | pmap kk ys => cases x <;> exact (hle : False).elim
  | mapit kk u ys r rem cur =>
    cases x with
    | mapit kk' t xs r' rem' cur' =>
      cases cur with
      | some z => exact (hle : False).elim
      | none =>
        simp only [leHE] at hle
        split at hle
        · obtain ⟨rfl, _⟩ := hle
          exact hb
        · exact hle.elim
    | _ => exact (hle : False).elim
  | pool u m =>
    cases x with
    | pool t m' =>
      simp only [leHE] at hle
      split at hle
      · rename_i m'' e
        subst hle
        obtain ⟨_, rfl, e⟩ := castM_eq e
        have e : m' = m'' := e
        subst e
        exact hb
      · exact hle.elim
    | _ => exact (hle : False).elim
  | orw u yss => cases x <;> first | exact (hle : False).elim | exact hb

theorem filt_get (v : Inv) : ∀ (l : List SV) (i : Nat), okSV v (lget (filt v l) i) = true
  | [], i => rfl
  | x :: r, 0 => by
    show okSV v (bif okSV v x then x else .one .any) = true
    cases e : okSV v x
    · rfl
    · exact e
  | x :: r, i + 1 => filt_get v r i
theorem leBk_get {σ : Ren} : ∀ {xs ys : List SV}, leBk σ xs ys → ∀ i, leSV σ (lget xs i) (lget ys i)
  | [], [], _, i => by unfold lget; cases i <;> trivial
  | x :: xs, y :: ys, h, 0 => h.1
  | x :: xs, y :: ys, h, i + 1 => leBk_get h.2 i
  | [], _ :: _, h, _ => h.elim
  | _ :: _, [], h, _ => h.elim

/-- A state that is one of an invariant's. -/
theorem le_ok {s0 : St} {v : Inv} (h : Ok w0 ρ s a w) (hle : le s v (Inv.st s0 v)) : ∃ ρ', Ok w0 ρ' (Inv.st s0 v) a w := by
  obtain ⟨ρ2, h2⟩ := packHeap_ok v.heap (s.nx + 1000000) s ρ h
  obtain ⟨ρ0, h0⟩ := nilSlots_ok v.slots s.nx _ ρ2 h2 v
  obtain ⟨ρ1, h1⟩ := nilHeap_ok v v.heap (s.nx + v.slots.length) _ ρ0 h0
  unfold le at hle
  generalize nilHeap (nilSlots (packHeap s (s.nx + 1000000) v.heap) v s.nx v.slots) v (s.nx + v.slots.length) v.heap = s1 at h1 hle
  simp only [] at hle
  generalize mHeap s1 (mHeap s1 (mSlots s1 [] v.slots) v.heap) v.heap = σ at hle
  cases hb : (sameLen s1.fr (Inv.st s0 v).fr && injN σ v.heap [] && okSlots v v.slots [] && okHeap v v.heap []) with
  | false => rw [hb] at hle; exact hle.elim
  | true =>
    rw [hb] at hle
    simp only [cond_true] at hle
    obtain ⟨hls, hlh, hlb⟩ := hle
    simp only [Bool.and_eq_true] at hb
    obtain ⟨⟨⟨hb1, hb2⟩, hb3⟩, hb4⟩ := hb
    obtain ⟨_, hinj⟩ := injN_inj hb2
    have hmem : ∀ {k he}, (Inv.st s0 v).hp k = some he → (k, he) ∈ v.heap := fun e => assoc_mem e
    have hover : Over σ v (cx w0 ρ1 s1 w) (cx w0 (fun k => ρ1 (σ.at k)) (Inv.st s0 v) w) := by
      refine ⟨fun _ => rfl, fun k hk => hk, fun b hS => ⟨⟨hS.1, fun k he hk => ?_, hS.2.2⟩, rfl⟩⟩
      obtain ⟨h', hh, hl⟩ := leHeap_mem hlh (hmem hk)
      exact fun hB => hS.2.1 _ h' hh (leHE_bk hl hB)
    refine ⟨fun k => ρ1 (σ.at k), { defers := h1.defers, below := h1.below, len := ?_, frame := ?_, back := ?_, heap := ?_, used := ?_, fresh := ?_, apart := ?_ }⟩
    · rw [← sameLen_eq hb1]; exact h1.len
    · intro i
      show SVc _ (lget (setSlots (anys s0.fr) v.slots) i) _
      rcases lget_setSlots v.slots (anys s0.fr) i with e | ⟨x, hx, e⟩ | e
      · rw [e, lget_anys]; trivial
      · rw [e]
        exact leSV_c hover (leSlots_mem hls hx) (okSlots_mem hb3 hx) (h1.frame i)
      · rw [e]; trivial
    · intro i
      cases hbk : (Inv.st s0 v).bk with
      | nil => unfold lget; cases i <;> trivial
      | cons y q =>
        rw [hbk] at hlb
        have hok : okSV v (lget (y :: q) i) = true := by rw [← hbk]; exact filt_get v s0.bk i
        exact leSV_c hover (leBk_get hlb i) hok (h1.back i)
    · intro k he hk
      obtain ⟨h', hh, hle⟩ := leHeap_mem hlh (hmem hk)
      exact leHE_c hover rfl hle (okHeap_mem hb4 (hmem hk)) (h1.heap _ h' hh)
    · intro k he hk
      show (assoc v.heap k).isSome = true
      rw [show assoc v.heap k = some he from hk]; rfl
    · intro k he b hk hbk
      obtain ⟨h', hh, hl⟩ := leHeap_mem hlh (hmem hk)
      exact h1.fresh _ h' b hh (leHE_bk hl hbk)
    · intro k k' he he' b hne hk hk' hb1' hb2'
      obtain ⟨g, hg, hl⟩ := leHeap_mem hlh (hmem hk)
      obtain ⟨g', hg', hl'⟩ := leHeap_mem hlh (hmem hk')
      exact h1.apart _ _ g g' b (fun e => hne (hinj k he k' he' (hmem hk) (hmem hk') e)) hg hg' (leHE_bk hl hb1') (leHE_bk hl' hb2')
end
end Go.Sx
