/-
  Sx, part MA: conversions.
-/
import Derived.Test.YtpnmfoojmodnlaaSxM
import Derived.Laws.IdiomStrings
namespace Go.Sx
open Go.RowKit

section
variable {P : Program} {E : Env} {w0 : Base} {w : World} {ρ : Nat → Value} {s s' : St} {a : Act} {o : Oper}

theorem isIntT_c {t : TypeId} {k : IntKind} (hE : EnvOk P E) (h : isIntT E t = some k) : P.underlying t = some (.int k) := by
  unfold isIntT at h
  split at h
  · rename_i e; simp only [Option.some.injEq] at h; subst h; exact (hE _ _ e).kind.1
  · cases h
theorem isBytesT_c {t : TypeId} (hE : EnvOk P E) (h : isBytesT E t = true) : ∃ e, P.underlying t = some (.slice e) ∧ P.underlying e = some (.int .u8) := by
  unfold isBytesT at h
  split at h
  · rename_i e' hti
    split at h
    · rename_i hi; exact ⟨_, (hE _ _ hti).kind, isIntT_c hE hi⟩
    · cases h
  · cases h
theorem convert_does {t u : TypeId} {x : Operand} {wr : Bool} {p : Option Prop} {R : Act → World → Prop} (hE : EnvOk P E) (h : Ok w0 ρ s a w) (ho : o.op = .convert t u x)
    (hs : convertS E wr s o.dst t u (ev s x) = some (p, s')) (hp : vcP p) (hR : Up w0 s' R) : Does P o a w R := by
  have hexec : execOp a.eval o = (do pure (.value (← convert t u (a.eval x)))) := by simp [execOp, ho]
  unfold convertS at hs
  split at hs
  · rename_i k n hx
    have ex := asInt_c (h.ev x) hx
    split at hs
    · rename_i k1 k2 h1 h2
      have u1 := isIntT_c hE h1
      have u2 := isIntT_c hE h2
      cases wr with
      | true =>
        simp only [cond_true, ok, Option.some.injEq, Prod.mk.injEq] at hs
        obtain ⟨_, rfl⟩ := hs
        refine does_value h hexec ?_ (sv_int (IR_wrap k2 n)) hR
        rw [ex]
        simp [convert, run_underlying u1, run_underlying u2, Conv.intToInt]
      | false =>
        simp only [cond_false, Option.some.injEq, Prod.mk.injEq] at hs
        obtain ⟨rfl, rfl⟩ := hs
        have hp : IR k2 n := hp
        refine does_value h hexec ?_ (sv_int hp) hR
        rw [ex]
        simp [convert, run_underlying u1, run_underlying u2, Conv.intToInt, wrap_in hp]
    · cases hs
  · split at hs
    · rename_i l hl
      obtain ⟨ex, bx⟩ := asStr_c (h.ev x) hl
      cases h1 : isStrT E t with
      | false => rw [h1] at hs; cases hs
      | true =>
        rw [h1] at hs
        simp only [cond_true] at hs
        have u1 := isStrT_c hE h1
        cases h2 : isStrT E u with
        | true =>
          rw [h2] at hs
          simp only [cond_true, ok, Option.some.injEq, Prod.mk.injEq] at hs
          obtain ⟨_, rfl⟩ := hs
          have u2 := isStrT_c hE h2
          refine does_value h hexec ?_ (sv_str bx) hR
          rw [ex]
          simp [convert, run_underlying u1, run_underlying u2]
        | false =>
          rw [h2] at hs
          simp only [cond_false] at hs
          cases h3 : isBytesT E u with
          | false => rw [h3] at hs; cases hs
          | true =>
            rw [h3] at hs
            simp only [cond_true, ok, Option.some.injEq, Prod.mk.injEq] at hs
            obtain ⟨_, rfl⟩ := hs
            obtain ⟨e, u2, u3⟩ := isBytesT_c hE h3
            have hrun := run_bytes_of_string (P := P) w t u e (mkStr l) u1 u2 u3
            generalize hcap : grownCap w (mkStr l).size 0 e = cap at hrun
            have hcc : (mkStr l).size ≤ cap ∧ cap ≤ maxLen := by
              rw [← hcap]
              exact ⟨grownCap_ge .., grownCap_le_maxLen _ _ _ _ (by rw [mkStr_size]; simp only [maxLen]; exact bx.1)⟩
            generalize hro : (Obj.cells (bytesRow (mkStr l) cap) e ((bytesRow (mkStr l) cap).size, (bytesRow (mkStr l) cap).size + 1)) = ob at hrun
            have hm : More w (w.drew.alloc ob) := (More.drew w).trans (More.alloc _ _)
            have hok := h.more hm
            have hnew : (w.drew.alloc ob).heap[w.heap.size]? = some ob := by show (w.heap.push ob)[w.heap.size]? = _; simp
            refine .inl ⟨_, _, by rw [hexec, ex]; simp only [Sem.run_bind, hrun, Result.andThen_ok, Sem.run_pure]; rfl, hR ρ _ _ (hok.put o.dst (SVc.of1 (p := .d (.sl (.int .u8)) l) rfl ?_))⟩
            refine ⟨some ⟨w.heap.size, 0, none⟩, cap, by rw [mkStr_size], by rw [← mkStr_size]; exact hcc.1, hcc.2, fun hpos => ⟨w.heap.size, 0, rfl, ⟨?_, ?_, ?_⟩, fun i b hi => ?_⟩⟩
            · show w.heap.size < (w.heap.push ob).size; simp
            · intro k he hk e
              have := (h.fresh k he _ hk e).2
              omega
            · exact w0.all _ (h.newold (Nat.le_refl _))
            · have hlt : i < l.length := (List.getElem?_eq_some_iff.1 hi).1
              have hb : l[i] = b := (List.getElem?_eq_some_iff.1 hi).2
              have hr := bx.2 b (List.mem_of_getElem? hi)
              refine ⟨[.int .u8 b], fun j v hj => ?_, rfl, hr⟩
              cases j with
              | succ j => simp at hj
              | zero =>
                simp only [List.getElem?_cons_zero, Option.some.injEq] at hj
                subst hj
                have hc : (bytesRow (mkStr l) cap)[i]? = some (.int .u8 b) := by
                  unfold bytesRow
                  rw [Array.getElem?_append_left (by simp [mkStr]; exact hlt)]
                  simp only [mkStr, List.map_toArray, List.getElem?_toArray, List.getElem?_map, hi, Option.map_some, Option.some.injEq, Value.int.injEq, true_and]
                  simp only [UInt8.toNat_ofNat']
                  omega
                have e0 : 0 + (i * Ty.size (.int .u8) + 0) = i := by simp [Ty.size]
                rw [e0]
                show (w.drew.alloc ob).cell? ⟨w.heap.size, i, none⟩ = _
                rw [cell_of_block (hnew.trans (congrArg some hro.symm))]
                exact hc
    · cases hb : isBytesT E t && isStrT E u with
      | false => rw [hb] at hs; cases hs
      | true =>
        rw [hb] at hs
        simp only [cond_true] at hs
        simp only [Bool.and_eq_true] at hb
        obtain ⟨e, u1, u2⟩ := isBytesT_c hE hb.1
        have u3 := isStrT_c hE hb.2
        split at hs
        · rename_i hx
          simp only [ok, Option.some.injEq, Prod.mk.injEq] at hs
          obtain ⟨_, rfl⟩ := hs
          have hv := h.ev x
          rw [hx] at hv
          obtain ⟨h1, _⟩ := SVc.one1 rfl (by simp) hv
          simp only [List.cons.injEq, and_true] at h1
          refine does_value h hexec ?_ (sv_str (l := []) ⟨by simp, by simp⟩) hR
          rw [h1, run_convert_bytes_string w t u e _ _ _ u1 u2 u3]
          simp [Conv.bytesToString]
          rfl
        · split at hs
          · rename_i t' xs hx
            split at hs
            · rename_i l hl
              simp only [ok, Option.some.injEq, Prod.mk.injEq] at hs
              obtain ⟨_, rfl⟩ := hs
              obtain ⟨e2, he2⟩ := castD_eq hl
              injection e2 with e2
              subst e2
              have he2 : xs = l := he2
              subst he2
              obtain ⟨A, c, h1, h2, h3, h4⟩ := slD_c h (h.ev x) hx
              have hby : isBytes xs := by
                refine ⟨by simp only [maxLen] at h3; omega, fun b hb => ?_⟩
                obtain ⟨i, hi⟩ := List.mem_iff_getElem?.1 hb
                obtain ⟨_, _, _, _, h5⟩ := h4 (by have := (List.getElem?_eq_some_iff.1 hi).1; omega)
                obtain ⟨l, _, hr⟩ := h5 i b hi
                exact hr.2
              refine does_value h hexec ?_ (sv_str hby) hR
              rw [h1]
              cases A with
              | none =>
                have h0 : xs.length = 0 := by
                  rcases Nat.eq_zero_or_pos xs.length with h0 | h0
                  · exact h0
                  · obtain ⟨_, _, e, _⟩ := h4 h0; cases e
                have : xs = [] := List.length_eq_zero_iff.1 h0
                subst this
                rw [run_convert_bytes_string w t u e _ _ _ u1 u2 u3]
                simp [Conv.bytesToString]
                rfl
              | some ad =>
                have hl' : (xs.map fun n : Int => UInt8.ofNat n.toNat).length = xs.length := List.length_map ..
                have hrun := run_convert_bytes_back (P := P) w t u e ad c (xs.map fun n : Int => UInt8.ofNat n.toNat) u1 u2 u3 (fun j hj => by
                  rw [hl'] at hj
                  obtain ⟨b, q, e3, _, h5⟩ := h4 (by omega)
                  obtain ⟨l, hl, hr⟩ := h5 j xs[j] (List.getElem?_eq_getElem hj)
                  have hr := hr.1
                  have h6 := hl 0 (.int .u8 xs[j]) (by rw [hr]; rfl)
                  injection e3 with e3
                  have e4 : ad.add j = ⟨b, q + j * Ty.size (.int .u8) + 0, none⟩ := by
                    subst e3
                    unfold Addr.add
                    split
                    · rename_i h0; have h0 : j = 0 := h0; subst h0; simp
                    · simp [Ty.size]
                  rw [e4, h6]
                  have := hby.2 xs[j] (List.getElem_mem hj)
                  simp only [List.getElem_map, UInt8.toNat_ofNat', Option.some.injEq, Value.int.injEq, true_and]
                  omega)
                rw [hl'] at hrun
                exact hrun
            · cases hs
          · cases hs
end
end Go.Sx
