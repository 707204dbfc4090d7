/-
 Walked by hand: part X2.
-/
import Derived.Test.YtlnlichdidobpaaGreatDoorTurnsX1
import Derived.Test.YtlnlichdidobpaaGreatDoorTurnsC
namespace Go.Proofs.YtlnlichdidobpaaGreatDoor.Turns
set_option maxRecDepth 100000
set_option maxHeartbeats 4000000
set_option linter.unusedSimpArgs false
set_option linter.unusedVariables false
open Go Go.Proofs Go.Shelf Go.RowKit
theorem KY (sl : Int) (l : List RO) (A0 : Option Addr) (c : Nat) (tk : Int) (w : World) (hlen : l.length ≤ 30) (hr : s4 w A0 l) (htk : tk ≤ 300) :
  Calls Tryz.prog 5 #[.int .i64 1, .int .i64 sl, .slice A0 l.length c, .int .i64 tk] w fun e w' => Below w.heap.size w w' ∧ ((∃ r, r ≠ 0 ∧ e = .returned (.tuple #[.slice none 0 0, .int .i64 r])) ∨
   (0 ≤ tk ∧ 1 ≤ sl ∧ (∀ o ∈ l, Ls o) ∧ ∃ v xs, e = .returned (.tuple #[v, .int .i64 0]) ∧ w'.ownsRow w.heap.size 28 1 v tk.toNat xs ∧ ∀ i, i < tk.toNat → ∃ x, xs[i]? = some x ∧ pQ w' x (Gg l sl i))) := by
 have hwrong := Ck sl l A0 c w hlen hr
 have ht2 : ¬ (2000 : Int) < tk := by omega
 go_enter Tryz.func5, Tryz.ntmps5
 go_wp2_with (go_at_call 8; refine hwrong.mono ?_; rintro e w1 ⟨r, rfl, hb1, hok⟩; refine Hid.out ?_)
 refine Lib.hid ?_
 by_cases hr0 : r = 0
 ·obtain ⟨s1, s2, hokl⟩ := hok hr0
  subst hr0
  have HO := Lib.hid (And.intro hokl hb1)
  have hr1 := Lib.hid (hr.below hb1)
  clear hok hokl hb1 hwrong hr
  by_cases ht0 : tk < 0
  ·go_wp2
   go_ret2
   exact ⟨HO.out.2, .inl ⟨2, by decide, rfl⟩⟩
  ·obtain ⟨tn, rfl⟩ : ∃ tn : Nat, tk = (tn : Int) := ⟨tk.toNat, by omega⟩
   obtain ⟨i43, hi43, hz430, hz431, hz432⟩ := info_parts (show (Tryz.prog.info? 43).map (fun i => (i.zero, i.size, i.bytes)) = some (some (.pointer none), 1, 8) by kernel_rfl)
   obtain ⟨i28, hi28, hz280, hz281, hz282⟩ := info_parts (show (Tryz.prog.info? 28).map (fun i => (i.zero, i.size, i.bytes)) = some (some (.slice none 0 0), 1, 24) by kernel_rfl)
   obtain ⟨i3, hi3, hz30, hz31, hz32⟩ := info_parts (show (Tryz.prog.info? 3).map (fun i => (i.zero, i.size, i.bytes)) = some (some (.int .i64 0), 1, 8) by kernel_rfl)
   obtain ⟨w2, hmk, hown2, hg2⟩ := run_makeSlice_full (P := Tryz.prog) (w := w1) w.heap.size 42 43 i43 (.pointer none) 1 Tryz.underlying42 hi43 hz430 hz431 .i64 .i64 l.length (by omega) (by rw [hz432]; omega) (by unfold maxLen; omega) HO.out.2.size
   obtain ⟨cur0, hcur0, hcs0⟩ : ∃ cur, w2.heap[w1.heap.size]? = some (.cells cur 43 (0, 0)) ∧ cur.size = l.length := by
    rcases hown2.2 with ⟨h, _⟩ | ⟨g, cap, cur, h, _, h2, _, _, h3, _⟩
    ·cases h
    ·injection h with e1 e2 e3
     injection e1 with e1
     injection e1 with e1
     subst e1 e3
     exact ⟨cur, h2, by omega⟩
   have hb2 : Below w.heap.size w w2 := HO.out.2.grown hg2 HO.out.2.size (fun k hk => by cases hk)
   have hb12 : Below w1.heap.size w1 w2 := (Below.refl _ _).grown hg2 (Nat.le_refl _) (fun k hk => by cases hk)
   have hw1 : w.heap.size ≤ w1.heap.size := HO.out.2.size
   have hw2 : w1.heap.size < w2.heap.size := (Array.getElem?_eq_some_iff.1 hcur0).1
   have H0 := Lib.hid (And.intro hcur0 (And.intro hcs0 (And.intro hb2 hb12)))
   generalize hA : w1.heap.size = A at *
   clear hown2 hg2 hcur0 hb2 hb12
   go_wp2
   go_loopw [42] (fun v42 wr => ∃ (k : Nat) (P : Nat → Nat), k ≤ l.length ∧ v42 = .int .i64 k ∧ MI l w.heap.size A P k wr (fun k => (cq l k).2.2) (fun _ => 0) (fun _ => 0) ∧ Below A w1 wr ∧ A < wr.heap.size) (fun v42 _ => l.length - (intOf v42).toNat)
   case atStart => exact ⟨0, fun _ => 0, Nat.zero_le _, rfl, ⟨⟨cur0, H0.out.1, H0.out.2.1, fun k hk => by omega⟩, fun k hk => by omega, fun i j hi => by omega, hw1, fun k hk => by omega⟩, H0.out.2.2.2, hw2⟩
   case round =>
    obtain ⟨k, P, hk, rfl, hI, hb, hs⟩ := hrel
    by_cases hkn : k < l.length
    ·obtain ⟨o, ho⟩ : ∃ o, l[k]? = some o := ⟨_, List.getElem?_eq_getElem hkn⟩
     obtain ⟨b, of, rfl, hlt, c0, c1, c2⟩ := hr1.out k o ho
     rw [hA] at hlt
     have c0 : wr.cell? ⟨b, of + k * 3, none⟩ = some (.int .i64 o.1) := (hb.cell (p := ⟨b, of + k * 3, none⟩) hlt).trans c0
     have c1 : wr.cell? ⟨b, of + k * 3 + 1, none⟩ = some (.int .i64 o.2.1) := (hb.cell (p := ⟨b, of + k * 3 + 1, none⟩) hlt).trans c1
     have c2 : wr.cell? ⟨b, of + k * 3 + 2, none⟩ = some (.int .i64 o.2.2) := (hb.cell (p := ⟨b, of + k * 3 + 2, none⟩) hlt).trans c2
     have hki : (k : Int) < (l.length : Int) := by omega
     obtain ⟨curA, hca1, hca2, hca3⟩ := hI.all
     have fz : ∀ j, wr.frozen? ⟨A, j, none⟩ = false := fun j => by simp [World.frozen?, hca1]
     obtain ⟨vA, cA⟩ : ∃ vA, wr.cell? ⟨A, k, none⟩ = some vA := ⟨_, aQ hca1 (Array.getElem?_eq_getElem (by omega))⟩
     have eo : cq l k = o := by
      unfold cq
      rw [List.getD_eq_getElem?_getD, ho]
      rfl
     have hp := hI.push hkn (by omega) (.cells #[.int .i64 o.1, .int .i64 o.2.1, .int .i64 o.2.2] 31)
     rw [eo] at hp
     have hs0 : (wr.setCell ⟨A, k, none⟩ (.pointer (some ⟨wr.heap.size + 1, 0, none⟩))).heap.size = wr.heap.size := by simp [World.setCell]
     have hb2 : Below A w1 (wr.setCell ⟨A, k, none⟩ (.pointer (some ⟨wr.heap.size + 1, 0, none⟩))) :=
      ⟨hb.os, hb.tape, hb.output, by rw [hs0]; exact hb.size, fun j hj => (bd (w := wr) (by omega)).trans (hb.block j hj)⟩
     have hb3 := (hb2.alloc (by omega) (.cells #[.int .i64 o.1, .int .i64 o.2.1, .int .i64 o.2.2] 31)).alloc (by simp; omega) (.cells (gn o o.2.2 0 0 k).toArray 45)
     have hsz : wr.heap.size + 1 + 1 = (((wr.setCell ⟨A, k, none⟩ (.pointer (some ⟨wr.heap.size + 1, 0, none⟩))).alloc (.cells #[.int .i64 o.1, .int .i64 o.2.1, .int .i64 o.2.2] 31)).alloc (.cells (gn o o.2.2 0 0 k).toArray 45)).heap.size := by simp [World.setCell]
     have hb5 : A < wr.heap.size + 1 + 1 := by omega
     rw [hsz] at hb5
     have HI := Lib.hid (And.intro hp (And.intro hb3 hb5))
     clear hI hb hp hb2 hb3 hb5 hs0 hca1 hca2 hca3 eo hsz
     go_wp2
     refine ⟨⟨k + 1, _, by omega, rfl, HI.out.1, HI.out.2.1, HI.out.2.2⟩, by simp [intOf]; omega⟩
    ·obtain rfl : k = l.length := by omega
     have hOI : OI l sl w A P wr 0 (.int .i64 0) (.slice none 0 0) := by
      refine ⟨⟨fun _ => 0, 0, rfl, Int.le_refl _, by simp, CI.start HO.out.1, ?_⟩, ⟨[], World.ownsRow_nil _ _ _ _, fun i hi => absurd hi (Nat.not_lt_zero i)⟩, fun g hg => (by cases hg), ?_, by omega⟩
      ·show MI l w.heap.size A P l.length wr (fun k => (cq l k).2.2) (fun _ => 0) (fun k => (0 : Int) % sl)
       rw [show (fun _ : Nat => (0 : Int) % sl) = fun _ => 0 from funext fun _ => Int.zero_emod sl]
       exact hI
      ·have hb1 := HO.out.2
       exact ⟨hb.os.trans hb1.os, hb.tape.trans hb1.tape, hb.output.trans hb1.output, Nat.le_trans hb1.size hb.size, fun k hk => (hb.block k (by omega)).trans (hb1.block k hk)⟩
     have HOI := Lib.hid hOI
     clear hI hb hOI
     go_wp2
     go_loopw [14, 15, 56] (fun v14 v15 v56 wt => ∃ t : Nat, t ≤ tn ∧ v56 = .int .i64 t ∧ OI l sl w A P wt t v14 v15) (fun _ _ v56 _ => tn - (intOf v56).toNat)
     case atStart => exact ⟨0, Nat.zero_le _, rfl, HOI.out⟩
     case round =>
      clear hmk H0 HOI
      obtain ⟨t, ht, rfl, hO⟩ := hrel
      rename World => wt
      by_cases htn : t < tn
      ·have hti : (t : Int) < (tn : Int) := by omega
       obtain ⟨trn, turn, rfl, hu0, hu1, hC, hM⟩ := hO.st
       have HO2 := Lib.hid hO
       have HC := Lib.hid (And.intro hC hM)
       have hAl := hM.Tj
       have hPl : ∀ k, k < l.length → P k < wt.heap.size := fun k hk => hM.lt hk
       clear hC hM hO
       go_wp2
       go_loopw [14, 17, 61] (fun v14 v17 v61 wx => ∃ (k : Nat) (trn : Nat → Int) (turn : Int), k ≤ l.length ∧ v61 = .int .i64 k ∧ v14 = .int .i64 turn ∧ 0 ≤ turn ∧ turn ≤ (t : Int) * 100 + k ∧ CI l t k (arr l t k (qs l sl t).L) (qs l sl t).w trn turn ∧ MI l w.heap.size A P l.length wx (qs l sl t).w trn (fun k => (qs l sl t).u k % sl) ∧ TS P l.length wt wx ∧
        wx.ownsRow wt.heap.size 43 1 v17 (uO l t (qs l sl t).w k).length (pg P (uO l t (qs l sl t).w k)) ∧ (uO l t (qs l sl t).w k = [] → v17 = .slice none 0 0)) (fun _ _ v61 _ => l.length - (intOf v61).toNat)
       case atStart => exact ⟨0, trn, turn, Nat.zero_le _, rfl, rfl, hu0, by simpa using hu1, HC.out.1, HC.out.2, TS.refl _ _ _, World.ownsRow_nil _ _ _ _, fun _ => rfl⟩
       case round =>
        clear HC
        obtain ⟨k, trn2, turn2, hk, rfl, rfl, hv0, hv1, hC, hM, hT, hown, hnil⟩ := hrel
        by_cases hkn : k < l.length
        ·have hki : (k : Int) < (l.length : Int) := by omega
         have cP := hM.ptr hkn
         obtain ⟨d0, d1, d2, d3, d4, d5, fz⟩ := hM.cells hkn
         have hv17 : ∀ g, u17.ownBlock = some g → wt.heap.size ≤ g ∧ g < wr.heap.size := fun g hg => hown.lt g hg
         have hgM : ∀ g, u17.ownBlock = some g → g ≠ A ∧ ∀ j, j < l.length → g ≠ P j := fun g hg => by
          have h1 := (hv17 g hg).1
          exact ⟨by omega, fun j hj => by have := hPl j hj; omega⟩
         by_cases hcome : (cq l k).1 = t
         ·have hM2 := hM.set (o := 4) hkn (v := .int .i64 (turn2 + 1)) (w' := (qs l sl t).w) (trn' := bP trn2 k (turn2 + 1)) (us' := fun k => (qs l sl t).u k % sl) (fun _ _ => rfl) (fun j hj => cc _ _ hj) (fun _ _ => rfl) (by rw [cw]; rfl)
          have hT2 := hT.set (o := 4) hkn (v := .int .i64 (turn2 + 1))
          have hC2 := hC.SC hcome hkn
          rw [← qo hcome] at hC2
          have hwr : IntKind.i64.wrap (turn2 + 1) = turn2 + 1 := by
           rw [IntKind.wrap_i64]
           omega
          have HF := Lib.hid (And.intro hC2 (And.intro hM2 hT2))
          have HG := Lib.hid (And.intro hv17 hgM)
          have hown2 : (wr.setCell ⟨P k, 4, none⟩ (.int .i64 (turn2 + 1))).ownsRow wt.heap.size 43 1 u17 (uO l t (qs l sl t).w k).length (pg P (uO l t (qs l sl t).w k)) :=
           xZ hown fun g hg _ => bd (w := wr) (fun e => (hgM g hg).2 k hkn e)
          by_cases hw : 0 < (qs l sl t).w k
          ·have hrow := hown2.alloc (.cells #[.pointer (some ⟨P k, 0, none⟩)] 43)
           have hsz : (wr.setCell ⟨P k, 4, none⟩ (.int .i64 (turn2 + 1))).heap.size = wr.heap.size := by simp [World.setCell]
           have hnew := aQ (iM (wr.setCell ⟨P k, 4, none⟩ (.int .i64 (turn2 + 1))) (.cells #[.pointer (some ⟨P k, 0, none⟩)] 43)) (j := 0) rfl
           rw [hsz] at hnew
           have HN := Lib.hid hnew
           clear hC hM hT hC2 hM2 hT2 hown hown2 hnil hv17 hgM hsz hnew
           go_wp2_with (at_builtin; refine wpList_append_own_at _ rfl _ _ 42 rfl wt.heap.size 43 i43 (.pointer none) 1 8 Tryz.underlying42 hi43 hz430 hz431 hz432 rfl (by decide) _ _ _ rfl hrow ⟨wr.heap.size, 0, none⟩ 1 1 [.pointer (some ⟨P k, 0, none⟩)] rfl rfl ?c1 ?c2 ?c3 ?c4 ?c5 ?_)
           case c1 =>
            intro j u hj
            match j, hj with
            | 0, hj =>
             simp at hj
             subst hj
             exact HN.out
           case c2 => intro u hu; simp at hu; subst hu; rfl
           case c3 => have := qS l t (qs l sl t).w k; unfold maxLen; omega
           case c4 => have := qS l t (qs l sl t).w k; omega
           case c5 => exact Nat.le_trans HF.out.2.2.size (by simp)
           intro v' w3 hown' hgrow hnl hat
           have hfin : CI l t (k + 1) (arr l t (k + 1) (qs l sl t).L) (qs l sl t).w (bP trn2 k (turn2 + 1)) (turn2 + 1) ∧ MI l w.heap.size A P l.length w3 (qs l sl t).w (bP trn2 k (turn2 + 1)) (fun k => (qs l sl t).u k % sl) ∧ TS P l.length wt w3 ∧ w3.ownsRow wt.heap.size 43 1 v' (uO l t (qs l sl t).w (k + 1)).length (pg P (uO l t (qs l sl t).w (k + 1))) ∧ (uO l t (qs l sl t).w (k + 1) = [] → v' = .slice none 0 0) := by
            refine ⟨HF.out.1, (HF.out.2.1.alloc _).grown hgrow HG.out.2, (HF.out.2.2.alloc _).grown hgrow (fun g hg => (HG.out.1 g hg).1), ?_, ?_⟩
            ·rw [lu, if_pos ⟨by omega, hw⟩, List.length_append, xE]
             exact hown'
            ·rw [lu, if_pos ⟨by omega, hw⟩]
             exact fun h => absurd h (by simp)
           obtain ⟨ao, n', cap, rfl⟩ : ∃ ao n' cap, v' = .slice ao n' cap := by
            rcases hown'.2 with ⟨hv, _⟩ | ⟨g, cap, cur, hv, _⟩
            ·exact ⟨_, _, _, hv⟩
            ·exact ⟨_, _, _, hv⟩
           have HFF := Lib.hid hfin
           clear hfin hown' hgrow hnl hat HF HG hrow
           go_wp2
           exact ⟨⟨k + 1, _, _, by omega, rfl, rfl, by omega, by omega, HFF.out⟩, by simp [intOf]; omega⟩
          ·have hre : uO l t (qs l sl t).w (k + 1) = uO l t (qs l sl t).w k := by
            rw [lu, if_neg (fun h => hw h.2), List.append_nil]
           have HO3 := Lib.hid (And.intro hre (And.intro hown2 hnil))
           clear hC hM hT hC2 hM2 hT2 hown hown2 hnil hv17 hgM hre
           go_wp2
           exact ⟨⟨k + 1, _, _, by omega, rfl, rfl, by omega, by omega, HF.out.1, HF.out.2.1, HF.out.2.2, by rw [HO3.out.1]; exact HO3.out.2⟩, by simp [intOf]; omega⟩
         ·have hC2 := hC.skip hcome
          rw [← uQ hcome] at hC2
          have HF := Lib.hid (And.intro hC2 (And.intro hM hT))
          have HG := Lib.hid (And.intro hv17 hgM)
          by_cases hready : (cq l k).1 ≤ t ∧ 0 < (qs l sl t).w k
          ·obtain ⟨hle, hw⟩ := hready
           have hrow := hown.alloc (.cells #[.pointer (some ⟨P k, 0, none⟩)] 43)
           clear hC hM hT hC2 hown hnil hv17 hgM
           go_wp2_with (at_builtin; refine wpList_append_own_at _ rfl _ _ 42 rfl wt.heap.size 43 i43 (.pointer none) 1 8 Tryz.underlying42 hi43 hz430 hz431 hz432 rfl (by decide) _ _ _ rfl hrow ⟨wr.heap.size, 0, none⟩ 1 1 [.pointer (some ⟨P k, 0, none⟩)] rfl rfl ?c1 ?c2 ?c3 ?c4 ?c5 ?_)
           case c1 =>
            intro j u hj
            match j, hj with
            | 0, hj => simp at hj; subst hj; simp [Addr.add]
           case c2 => intro u hu; simp at hu; subst hu; rfl
           case c3 => have := qS l t (qs l sl t).w k; unfold maxLen; omega
           case c4 => have := qS l t (qs l sl t).w k; omega
           case c5 => exact Nat.le_trans HF.out.2.2.size (by simp)
           intro v' w3 hown' hgrow hnl hat
           have hfin : CI l t (k + 1) (arr l t (k + 1) (qs l sl t).L) (qs l sl t).w trn2 turn2 ∧ MI l w.heap.size A P l.length w3 (qs l sl t).w trn2 (fun k => (qs l sl t).u k % sl) ∧ TS P l.length wt w3 ∧ w3.ownsRow wt.heap.size 43 1 v' (uO l t (qs l sl t).w (k + 1)).length (pg P (uO l t (qs l sl t).w (k + 1))) ∧ (uO l t (qs l sl t).w (k + 1) = [] → v' = .slice none 0 0) := by
            refine ⟨HF.out.1, (HF.out.2.1.alloc _).grown hgrow HG.out.2, (HF.out.2.2.alloc _).grown hgrow (fun g hg => (HG.out.1 g hg).1), ?_, ?_⟩
            ·rw [lu, if_pos ⟨by omega, hw⟩, List.length_append, xE]
             exact hown'
            ·rw [lu, if_pos ⟨by omega, hw⟩]
             exact fun h => absurd h (by simp)
           obtain ⟨ao, n', cap, rfl⟩ : ∃ ao n' cap, v' = .slice ao n' cap := by
            rcases hown'.2 with ⟨hv, _⟩ | ⟨g, cap, cur, hv, _⟩
            ·exact ⟨_, _, _, hv⟩
            ·exact ⟨_, _, _, hv⟩
           have HFF := Lib.hid hfin
           clear hfin hown' hgrow hnl hat HF HG hrow
           go_wp2
           exact ⟨⟨k + 1, _, _, by omega, rfl, rfl, by omega, by omega, HFF.out⟩, by simp [intOf]; omega⟩
          ·have hre : uO l t (qs l sl t).w (k + 1) = uO l t (qs l sl t).w k := by
            rw [lu, if_neg hready, List.append_nil]
           have HO3 := Lib.hid (And.intro hre (And.intro hown hnil))
           clear hC hM hT hC2 hown hnil hv17 hgM hre
           by_cases hle : (cq l k).1 ≤ t
           ·have hw : ¬ 0 < (qs l sl t).w k := fun h => hready ⟨hle, h⟩
            clear hready
            go_wp2
            exact ⟨⟨k + 1, _, _, by omega, rfl, rfl, by omega, by omega, HF.out.1, HF.out.2.1, HF.out.2.2, by rw [HO3.out.1]; exact HO3.out.2⟩, by simp [intOf]; omega⟩
           ·clear hready
            go_wp2
            exact ⟨⟨k + 1, _, _, by omega, rfl, rfl, by omega, by omega, HF.out.1, HF.out.2.1, HF.out.2.2, by rw [HO3.out.1]; exact HO3.out.2⟩, by simp [intOf]; omega⟩
        ·obtain rfl : k = l.length := by omega
         obtain ⟨M, hMM⟩ : ∃ M, Aside (arr l t l.length (qs l sl t).L = M) := ⟨_, rfl⟩
         rw [hMM.out] at hC
         have hlenM := hC.perm.length_eq
         rcases M with _ | ⟨j, r⟩
         ·have hr0 : uO l t (qs l sl t).w l.length = [] := List.eq_nil_of_length_eq_zero hlenM.symm
          have hu := hnil hr0
          subst hu
          have hS1 : Calls Tryz.prog 9 #[.slice none 0 0, .func (.func 10) #[] #[]] wr fun e w' => e = .returned (.tuple #[]) ∧ w' = wr := AnyF.slices_SortFunc_none { tT with } none 0 (.func (.func 10) #[] #[]) wr
          have hS2 : Calls Tryz.prog 13 #[.slice none 0 0] wr fun e w' => e = .returned (.tuple #[]) ∧ w' = wr := Any.slices_Sort_int_none Pt none 0 wr
          obtain ⟨xs, hxs, hin⟩ := HO2.out.rows (hT.alloc (.cells #[.slice none 0 0] 28))
          have hq : qs l sl (t + 1) = ⟨[], (qs l sl t).w, (qs l sl t).u⟩ := by
           show zr _ _ _ _ (arr l t l.length (qs l sl t).L) = _
           rw [hMM.out]
           rfl
          have hwho : Gg l sl t = [] := by
           unfold Gg
           rw [hMM.out]
           rfl
          have hCI := hC.idle
          have hMA := hM.alloc (.cells #[.slice none 0 0] 28)
          have HN := Lib.hid (And.intro hq (And.intro hwho (And.intro hCI (And.intro hMA (And.intro (hT.alloc (.cells #[.slice none 0 0] 28)) hin)))))
          clear hC hM hown hnil hr0 hlenM hin hq hwho hCI hMA
          have HT := Lib.hid hT
          clear hT
          go_wp2_with (go_at_call 9; refine hS1.mono ?_; rintro e w' ⟨rfl, hw'⟩; have hw' := hw'.symm; subst hw')
          refine wp_loop_rounds 1 ?_
          rw [rounds_succ]
          go_wp2_with (first | (go_at_call 13; refine hS2.mono ?_; rintro e w' ⟨rfl, hw'⟩; have hw' := hw'.symm; subst hw') | (at_builtin; refine wpList_append_own_at _ rfl _ _ 24 rfl w.heap.size 28 i28 (.slice none 0 0) 1 24 Tryz.underlying24 hi28 hz280 hz281 hz282 rfl (by decide) _ _ _ rfl hxs ⟨wr.heap.size, 0, none⟩ 1 1 [.slice none 0 0] rfl rfl ?c1 ?c2 ?c3 ?c4 ?c5 ?_))
          case c1 =>
           intro j u hj
           match j, hj with
           | 0, hj => simp at hj; subst hj; simp [Addr.add]
          case c2 => intro u hu; simp at hu; subst hu; rfl
          case c3 => unfold maxLen; omega
          case c4 => omega
          case c5 => exact Nat.le_trans HO2.out.bs (Nat.le_trans HT.out.size (by simp))
          intro v' w6 hown' hgrow _ hat
          have hfin : OI l sl w A P w6 (t + 1) (.int .i64 turn2) v' := by
           obtain ⟨hq, hwho, hCI, hMA, hTA, hin⟩ := HN.out
           refine HO2.out.next hTA hv0 (by omega) (by rw [hq]; exact hCI) (by rw [hq]; exact hMA) (by have := hxs.1; omega) hin hgrow hown' (hat.imp _root_.id fun ha => ⟨_, ha, by simp⟩) (.inl ⟨hwho, none, 0, rfl⟩)
          obtain ⟨ao, n', cap, rfl⟩ : ∃ ao n' cap, v' = .slice ao n' cap := by
           rcases hown'.2 with ⟨hv, _⟩ | ⟨g, cap, cur, hv, _⟩
           ·exact ⟨_, _, _, hv⟩
           ·exact ⟨_, _, _, hv⟩
          have HFF := Lib.hid hfin
          clear hfin hown' hgrow hat HN hxs HT HO2
          go_wp2
          exact ⟨⟨t + 1, by omega, rfl, HFF.out⟩, by simp [intOf]; omega⟩
         ·obtain ⟨hjn, -, hjw⟩ := (hC.mem j).1 (List.mem_cons_self ..)
          obtain ⟨q1, q2⟩ := JO l sl t
          have hw1 : (qs l sl t).w j ≤ 10000 := Int.le_trans (q1 j) (pJ HO.out.1 j).2.2.2.2.2
          have hm0 := Int.emod_nonneg ((qs l sl t).u j) (show sl ≠ 0 by omega)
          have hm1 := Int.emod_lt_of_pos ((qs l sl t).u j) (show 0 < sl by omega)
          have hms := Ka (u := (qs l sl t).u j) s1
          obtain ⟨g, cap, hu, hcap⟩ : ∃ g cap, u17 = .slice (some ⟨g, 0, none⟩) (r.length + 1) cap ∧ ¬ (cap : Int) < 1 := by
           rcases hown.2 with ⟨_, h0⟩ | ⟨g, cap, cur, hv, _, _, hnc, _⟩
           ·exact absurd h0 (by rw [← hlenM]; simp)
           ·rw [← hlenM, List.length_cons] at hnc
            exact ⟨g, cap, by rw [hv, ← hlenM]; rfl, by omega⟩
          subst hu
          have hgl := (hown.lt g rfl).1
          have hgA : ∀ b, some g = some b → b ≠ A ∧ ∀ k, k < l.length → b ≠ P k := fun b hb => by
           injection hb with hb
           subst hb
           exact ⟨by omega, fun k hk => by have := hPl k hk; omega⟩
          have hS1 := (FD hown (fun k hk => hPl k (BL hk)) (by have := qS l t (qs l sl t).w l.length; omega) hC.perm hC.Lw (fun k hk => (hM.cells (BL hk)).2.1) (fun k hk => (hM.cells (BL hk)).2.2.2.2.1)).mono (R' := fun e w' => e = .returned (.tuple #[]) ∧ Hid (w'.cell? ⟨g, 0, none⟩ = some (.pointer (some ⟨P j, 0, none⟩)) ∧ MI l w.heap.size A P l.length w' (qs l sl t).w trn2 (fun k => (qs l sl t).u k % sl) ∧ TS P l.length wt w'))
           (fun e w' hh => ⟨hh.1, Lib.hid ⟨sa (xs := pg P (j :: r)) hh.2.1 rfl, hM.grown hh.2.2 hgA, hT.grown hh.2.2 (fun b hb => by
            have hb : some g = some b := hb
            injection hb with hb
            omega)⟩⟩)
          have HCR := Lib.hid (And.intro hC hms)
          clear hC hM hT hown hnil hlenM q1 q2 hms hgA
          go_wp2_with (go_at_call 9; refine hS1.mono ?_; rintro e w3 ⟨rfl, hh⟩; refine Hid.out ?_)
          refine Lib.hid ?_
          obtain ⟨cg, hM3, hT3⟩ := hh.out
          obtain ⟨d0, d1, d2, d3, d4, d5, fz⟩ := hM3.cells hjn
          have HM3 := Lib.hid (And.intro hM3 hT3)
          have hmin : min (1 : Int) ((r.length : Int) + 1) = 1 := by omega
          clear hM3 hT3 hh hS1
          go_wp2
          refine wp_loop_rounds 2 ?_
          rw [rounds_succ]
          go_wp2_with (at_builtin; refine wpList_append_own_at _ rfl _ _ 28 rfl wt.heap.size 3 i3 (.int .i64 0) 1 8 Tryz.underlying28 hi3 hz30 hz31 hz32 rfl (by decide) _ _ _ rfl (World.ownsRow_nil _ _ _ _) ⟨w3.heap.size, 0, none⟩ 1 1 [.int .i64 j] rfl rfl ?c1 ?c2 ?c3 ?c4 ?c5 ?_)
          case c1 =>
           intro j u hj
           match j, hj with
           | 0, hj => simp at hj; subst hj; simp [Addr.add]
          case c2 => intro u hu; simp at hu; subst hu; rfl
          case c3 => unfold maxLen; omega
          case c4 => omega
          case c5 => exact Nat.le_trans HM3.out.2.size (by simp)
          intro v4 w4 hown4 hgrow4 _ hat4
          obtain ⟨gi, ci, rfl⟩ : ∃ gi ci, v4 = .slice (some ⟨gi, 0, none⟩) 1 ci := by
           rcases hown4.2 with ⟨_, h0⟩ | ⟨g, cap, cur, hv, _⟩
           ·exact absurd h0 (by decide)
           ·exact ⟨g, cap, hv⟩
          have hgi := (hown4.lt gi rfl).1
          have hgiA : ∀ b, some gi = some b → b ≠ A ∧ ∀ k, k < l.length → b ≠ P k := fun b hb => by
           injection hb with hb
           subst hb
           exact ⟨by omega, fun k hk => by have := hPl k hk; omega⟩
          have hM4 := (HM3.out.1.alloc (.cells #[.int .i64 j] 3)).grown hgrow4 (fun b hb => by cases hb)
          have hT4 := (HM3.out.2.alloc (.cells #[.int .i64 j] 3)).grown hgrow4 (fun b hb => by cases hb)
          clear d0 d1 d2 d3 d4 d5 fz cg HM3
          obtain ⟨d0, d1, d2, d3, d4, d5, fz⟩ := hM4.cells hjn
          have hMA := hM4.set (o := 2) hjn (v := .int .i64 ((qs l sl t).w j - 1)) (w' := bP (qs l sl t).w j ((qs l sl t).w j - 1)) (trn' := trn2) (us' := fun k => (qs l sl t).u k % sl) (fun i hi => cc _ _ hi) (fun _ _ => rfl) (fun _ _ => rfl) (by rw [cw]; rfl)
          have hTA := hT4.set (o := 2) hjn (v := .int .i64 ((qs l sl t).w j - 1))
          have hwr1 : IntKind.i64.wrap ((qs l sl t).w j - 1) = (qs l sl t).w j - 1 := by
           rw [IntKind.wrap_i64]
           omega
          have hwr2 : IntKind.i64.wrap ((qs l sl t).u j % sl + 1) = (qs l sl t).u j % sl + 1 := by
           rw [IntKind.wrap_i64]
           omega
          have hwho : Gg l sl t = [j] := by
           unfold Gg
           rw [hMM.out]
           rfl
          by_cases hb : (qs l sl t).u j % sl + 1 = sl
          ·have hq : qs l sl (t + 1) = ⟨if 0 < (qs l sl t).w j - 1 then ins l j r else r, bP (qs l sl t).w j ((qs l sl t).w j - 1), bP (qs l sl t).u j ((qs l sl t).u j + 1)⟩ := by
            show zr _ _ _ _ (arr l t l.length (qs l sl t).L) = _
            rw [hMM.out]
            show QS.mk (if _ then (if ((qs l sl t).u j + 1) % sl = 0 then _ else _) else _) _ _ = _
            rw [if_pos (HCR.out.2.1 hb)]
           have hCI := HCR.out.1.run true hv0
           have hMB := hMA.set (o := 5) hjn (v := .int .i64 sl) (w' := bP (qs l sl t).w j ((qs l sl t).w j - 1)) (trn' := trn2) (us' := bP (fun k => (qs l sl t).u k % sl) j sl) (fun _ _ => rfl) (fun _ _ => rfl) (fun i hi => cc _ _ hi) (by rw [cw, cw]; rfl)
           have hMC := hMB.set (o := 5) hjn (v := .int .i64 0) (w' := bP (qs l sl t).w j ((qs l sl t).w j - 1)) (trn' := trn2) (us' := fun k => bP (qs l sl t).u j ((qs l sl t).u j + 1) k % sl) (fun _ _ => rfl) (fun _ _ => rfl) (fun i hi => by rw [cc _ _ hi, cc _ _ hi]) (by rw [cw, cw, cw, HCR.out.2.1 hb]; rfl)
           have hMD := hMC.set (o := 4) hjn (v := .int .i64 (turn2 + 1)) (w' := bP (qs l sl t).w j ((qs l sl t).w j - 1)) (trn' := bP trn2 j (turn2 + 1)) (us' := fun k => bP (qs l sl t).u j ((qs l sl t).u j + 1) k % sl) (fun _ _ => rfl) (fun i hi => cc _ _ hi) (fun _ _ => rfl) (by rw [cw, cw, cw]; rfl)
           have hTD := ((hTA.set (o := 5) hjn (v := .int .i64 sl)).set (o := 5) hjn (v := .int .i64 0)).set (o := 4) hjn (v := .int .i64 (turn2 + 1))
           have hwr3 : IntKind.i64.wrap (turn2 + 1) = turn2 + 1 := by
            rw [IntKind.wrap_i64]
            omega
           have hownD : ((((w4.setCell ⟨P j, 2, none⟩ (.int .i64 ((qs l sl t).w j - 1))).setCell ⟨P j, 5, none⟩ (.int .i64 sl)).setCell ⟨P j, 5, none⟩ (.int .i64 0)).setCell ⟨P j, 4, none⟩ (.int .i64 (turn2 + 1))).ownsRow wt.heap.size 3 1 (.slice (some ⟨gi, 0, none⟩) 1 ci) 1 [.int .i64 j] := eY hown4 (fun b hb => by
            have hb : some gi = some b := hb
            injection hb with hb
            subst hb
            have hk : ∀ (W : World) (o : Nat) (v : Value), (W.setCell ⟨P j, o, none⟩ v).heap[gi]? = W.heap[gi]? := fun W o v => bd (w := W) ((hgiA gi rfl).2 j hjn)
            rw [hk, hk, hk, hk])
           have hS2 := (vN hownD).mono (R' := fun e w' => e = .returned (.tuple #[]) ∧ Hid (w'.cell? ⟨gi, 0, none⟩ = some (.int .i64 j) ∧ MI l w.heap.size A P l.length w' (bP (qs l sl t).w j ((qs l sl t).w j - 1)) (bP trn2 j (turn2 + 1)) (fun k => bP (qs l sl t).u j ((qs l sl t).u j + 1) k % sl) ∧ TS P l.length wt w'))
            (fun e w' hh => ⟨hh.1, Lib.hid ⟨hh.2.2, hMD.grown hh.2.1 hgiA, hTD.grown hh.2.1 (fun b hb => by
             injection hb with hb
             omega)⟩⟩)
           have HK := Lib.hid (And.intro hq (And.intro hCI hwho))
           clear hq hCI hMA hMB hMC hMD hTA hTD hT4 hM4 hown4 hgrow4 hat4 hwho hgiA hownD HCR
           go_wp2
           rw [rounds_succ]
           go_wp2_with (go_at_call 13; refine hS2.mono ?_; rintro e w7 ⟨rfl, hh⟩; refine Hid.out ?_)
           refine Lib.hid ?_
           obtain ⟨c7, hM7, hT7⟩ := hh.out
           have hM8 := hM7.alloc (.cells #[.slice (some ⟨gi, 0, none⟩) 1 ci] 28)
           have hT8 := hT7.alloc (.cells #[.slice (some ⟨gi, 0, none⟩) 1 ci] 28)
           have c8 := (gm w7 (.cells #[.slice (some ⟨gi, 0, none⟩) 1 ci] 28) (j := 0) (bV c7)).trans c7
           obtain ⟨xs, hxs, hin⟩ := HO2.out.rows hT8
           have HT := Lib.hid hT7
           have HN := Lib.hid (And.intro hM8 (And.intro hT8 (And.intro c8 hin)))
           clear hS2 hh c7 hM7 hT7 hM8 hT8 c8 hin d0 d1 d2 d3 d4 d5 fz
           go_wp2_with (at_builtin; refine wpList_append_own_at _ rfl _ _ 24 rfl w.heap.size 28 i28 (.slice none 0 0) 1 24 Tryz.underlying24 hi28 hz280 hz281 hz282 rfl (by decide) _ _ _ rfl hxs ⟨w7.heap.size, 0, none⟩ 1 1 [.slice (some ⟨gi, 0, none⟩) 1 ci] rfl rfl ?c1 ?c2 ?c3 ?c4 ?c5 ?_)
           case c1 =>
            intro j u hj
            match j, hj with
            | 0, hj => simp at hj; subst hj; simp [Addr.add]
           case c2 => intro u hu; simp at hu; subst hu; rfl
           case c3 => unfold maxLen; omega
           case c4 => omega
           case c5 => exact Nat.le_trans HO2.out.bs (Nat.le_trans HT.out.size (by simp))
           intro v' w6 hown' hgrow _ hat
           have hfin : OI l sl w A P w6 (t + 1) (.int .i64 (turn2 + 1)) v' := by
            obtain ⟨hq, hCI, hwho⟩ := HK.out
            obtain ⟨hMA, hTA, c8, hin⟩ := HN.out
            refine HO2.out.next hTA (by omega) (by omega) (by rw [hq]; exact hCI) (by rw [hq]; exact hMA) (by have := hxs.1; omega) hin hgrow hown' (hat.imp _root_.id fun ha => ⟨_, ha, by simp⟩) (.inr ⟨j, gi, ci, hwho, rfl, c8, hgi⟩)
           obtain ⟨ao, n', cap, rfl⟩ : ∃ ao n' cap, v' = .slice ao n' cap := by
            rcases hown'.2 with ⟨hv, _⟩ | ⟨g, cap, cur, hv, _⟩
            ·exact ⟨_, _, _, hv⟩
            ·exact ⟨_, _, _, hv⟩
           have HFF := Lib.hid hfin
           clear hfin hown' hgrow hat HN hxs HT HO2 HK
           go_wp2
           exact ⟨⟨t + 1, by omega, rfl, HFF.out⟩, by simp [intOf]; omega⟩
          ·have hq : qs l sl (t + 1) = ⟨if 0 < (qs l sl t).w j - 1 then j :: r else r, bP (qs l sl t).w j ((qs l sl t).w j - 1), bP (qs l sl t).u j ((qs l sl t).u j + 1)⟩ := by
            show zr _ _ _ _ (arr l t l.length (qs l sl t).L) = _
            rw [hMM.out]
            show QS.mk (if _ then (if ((qs l sl t).u j + 1) % sl = 0 then _ else _) else _) _ _ = _
            rw [if_neg (show ¬ ((qs l sl t).u j + 1) % sl = 0 by rw [HCR.out.2.2 hb]; omega)]
           have hCI := HCR.out.1.run false hv0
           have hMD := hMA.set (o := 5) hjn (v := .int .i64 ((qs l sl t).u j % sl + 1)) (w' := bP (qs l sl t).w j ((qs l sl t).w j - 1)) (trn' := trn2) (us' := fun k => bP (qs l sl t).u j ((qs l sl t).u j + 1) k % sl) (fun _ _ => rfl) (fun _ _ => rfl) (fun i hi => by rw [cc _ _ hi]) (by rw [cw, cw, HCR.out.2.2 hb]; rfl)
           have hTD := hTA.set (o := 5) hjn (v := .int .i64 ((qs l sl t).u j % sl + 1))
           have hownD : ((w4.setCell ⟨P j, 2, none⟩ (.int .i64 ((qs l sl t).w j - 1))).setCell ⟨P j, 5, none⟩ (.int .i64 ((qs l sl t).u j % sl + 1))).ownsRow wt.heap.size 3 1 (.slice (some ⟨gi, 0, none⟩) 1 ci) 1 [.int .i64 j] := eY hown4 (fun b hb => by
            have hb : some gi = some b := hb
            injection hb with hb
            subst hb
            have hk : ∀ (W : World) (o : Nat) (v : Value), (W.setCell ⟨P j, o, none⟩ v).heap[gi]? = W.heap[gi]? := fun W o v => bd (w := W) ((hgiA gi rfl).2 j hjn)
            rw [hk, hk])
           have hS2 := (vN hownD).mono (R' := fun e w' => e = .returned (.tuple #[]) ∧ Hid (w'.cell? ⟨gi, 0, none⟩ = some (.int .i64 j) ∧ MI l w.heap.size A P l.length w' (bP (qs l sl t).w j ((qs l sl t).w j - 1)) trn2 (fun k => bP (qs l sl t).u j ((qs l sl t).u j + 1) k % sl) ∧ TS P l.length wt w'))
            (fun e w' hh => ⟨hh.1, Lib.hid ⟨hh.2.2, hMD.grown hh.2.1 hgiA, hTD.grown hh.2.1 (fun b hb => by
             injection hb with hb
             omega)⟩⟩)
           have HK := Lib.hid (And.intro hq (And.intro hCI hwho))
           clear hq hCI hMA hMD hTA hTD hT4 hM4 hown4 hgrow4 hat4 hwho hgiA hownD HCR
           go_wp2
           rw [rounds_succ]
           go_wp2_with (go_at_call 13; refine hS2.mono ?_; rintro e w7 ⟨rfl, hh⟩; refine Hid.out ?_)
           refine Lib.hid ?_
           obtain ⟨c7, hM7, hT7⟩ := hh.out
           have hM8 := hM7.alloc (.cells #[.slice (some ⟨gi, 0, none⟩) 1 ci] 28)
           have hT8 := hT7.alloc (.cells #[.slice (some ⟨gi, 0, none⟩) 1 ci] 28)
           have c8 := (gm w7 (.cells #[.slice (some ⟨gi, 0, none⟩) 1 ci] 28) (j := 0) (bV c7)).trans c7
           obtain ⟨xs, hxs, hin⟩ := HO2.out.rows hT8
           have HT := Lib.hid hT7
           have HN := Lib.hid (And.intro hM8 (And.intro hT8 (And.intro c8 hin)))
           clear hS2 hh c7 hM7 hT7 hM8 hT8 c8 hin d0 d1 d2 d3 d4 d5 fz
           go_wp2_with (at_builtin; refine wpList_append_own_at _ rfl _ _ 24 rfl w.heap.size 28 i28 (.slice none 0 0) 1 24 Tryz.underlying24 hi28 hz280 hz281 hz282 rfl (by decide) _ _ _ rfl hxs ⟨w7.heap.size, 0, none⟩ 1 1 [.slice (some ⟨gi, 0, none⟩) 1 ci] rfl rfl ?c1 ?c2 ?c3 ?c4 ?c5 ?_)
           case c1 =>
            intro j u hj
            match j, hj with
            | 0, hj => simp at hj; subst hj; simp [Addr.add]
           case c2 => intro u hu; simp at hu; subst hu; rfl
           case c3 => unfold maxLen; omega
           case c4 => omega
           case c5 => exact Nat.le_trans HO2.out.bs (Nat.le_trans HT.out.size (by simp))
           intro v' w6 hown' hgrow _ hat
           have hfin : OI l sl w A P w6 (t + 1) (.int .i64 turn2) v' := by
            obtain ⟨hq, hCI, hwho⟩ := HK.out
            obtain ⟨hMA, hTA, c8, hin⟩ := HN.out
            refine HO2.out.next hTA (by omega) (by omega) (by rw [hq]; exact hCI) (by rw [hq]; exact hMA) (by have := hxs.1; omega) hin hgrow hown' (hat.imp _root_.id fun ha => ⟨_, ha, by simp⟩) (.inr ⟨j, gi, ci, hwho, rfl, c8, hgi⟩)
           obtain ⟨ao, n', cap, rfl⟩ : ∃ ao n' cap, v' = .slice ao n' cap := by
            rcases hown'.2 with ⟨hv, _⟩ | ⟨g, cap, cur, hv, _⟩
            ·exact ⟨_, _, _, hv⟩
            ·exact ⟨_, _, _, hv⟩
           have HFF := Lib.hid hfin
           clear hfin hown' hgrow hat HN hxs HT HO2 HK
           go_wp2
           exact ⟨⟨t + 1, by omega, rfl, HFF.out⟩, by simp [intOf]; omega⟩
      ·obtain rfl : t = tn := by omega
       have HO2 := Lib.hid hO
       clear hO
       go_wp2
       go_ret2
       obtain ⟨xs, h1, h2⟩ := HO2.out.out
       refine ⟨HO2.out.bl, .inr ⟨by omega, s1, HO.out.1, u15, xs, rfl, by simpa using h1, fun i hi => ?_⟩⟩
       obtain ⟨x, hx, hi2⟩ := h2 i (by simpa using hi)
       exact ⟨x, hx, hi2.r⟩
 ·go_wp2
  go_ret2
  exact ⟨hb1, .inl ⟨r, hr0, rfl⟩⟩
end Go.Proofs.YtlnlichdidobpaaGreatDoor.Turns
namespace Go.Proofs.YtlnlichdidobpaaGreatDoor.Turns
set_option maxRecDepth 100000
set_option maxHeartbeats 4000000
set_option linter.unusedSimpArgs false
set_option linter.unusedVariables false
open Go Go.Proofs Go.Shelf Go.RowKit
theorem pQ.nil {w : World} {x : Value} (h : pQ w x []) : ∃ a c, x = .slice a 0 c := by
 rcases h with ⟨_, h⟩ | ⟨k, g, c, e, _⟩
 ·exact h
 ·cases e
theorem pQ.one {w : World} {x : Value} {j : Nat} (h : pQ w x [j]) : ∃ g c, x = .slice (some ⟨g, 0, none⟩) 1 c ∧ w.cell? ⟨g, 0, none⟩ = some (.int .i64 j) := by
 rcases h with ⟨e, _⟩ | ⟨k, g, c, e, h1, h2⟩
 ·cases e
 ·injection e with e
  subst e
  exact ⟨g, c, h1, h2⟩
theorem Gt {W : World} {B : Nat} {e : TypeId} {v : Value} {xs : List Value} (h : W.ownsRow B e 1 v 0 xs) : ∃ a c, v = .slice a 0 c := by
 rcases h.2 with ⟨hv, _⟩ | ⟨g, cap, cur, hv, _⟩
 ·exact ⟨_, _, hv⟩
 ·exact ⟨_, _, hv⟩
theorem EO {W : World} {B n : Nat} {e : TypeId} {v y : Value} {xs : List Value} (h : W.ownsRow B e 1 v (n + 1) (y :: xs)) : ∃ g c, v = .slice (some ⟨g, 0, none⟩) (n + 1) c ∧ W.cell? ⟨g, 0, none⟩ = some y := by
 rcases h.2 with ⟨_, hn⟩ | ⟨g, cap, cur, hv, _⟩
 ·omega
 ·subst hv
  exact ⟨g, cap, rfl, sa h rfl⟩
theorem Dy (sl tk : Int) (l : List RO) (A0 : Option Addr) (c : Nat) (w : World) (hr : s4 w A0 l) (hal : Calls Tryz.prog 4 #[] w fun e w' => e = .returned (.bool true) ∧ Below w.heap.size w w') :
  Calls Tryz.prog 3 #[.int .i64 sl, .slice A0 l.length c, .int .i64 tk] w fun e w' => e = .returned (.bool true) ∧ Below w.heap.size w w' := by
 have hal := hal.mono (R' := fun e w' => e = .returned (.bool true) ∧ Hid (Below w.heap.size w w')) (fun e w' hh => ⟨hh.1, Lib.hid hh.2⟩)
 go_enter Tryz.func3, Tryz.ntmps3
 by_cases h300 : (300 : Int) < tk
 ·go_wp2_with (go_at_call 4; refine hal.mono ?_; rintro e w0 ⟨rfl, hb0⟩)
  all_goals
   go_ret
   exact ⟨rfl, hb0.out⟩
 by_cases h30 : (30 : Int) < (l.length : Int)
 ·go_wp2_with (go_at_call 4; refine hal.mono ?_; rintro e w0 ⟨rfl, hb0⟩)
  all_goals
   go_ret
   exact ⟨rfl, hb0.out⟩
 have HR := Lib.hid hr
 clear hr
 have hd1 : decide ((300 : Int) < tk) = false := decide_eq_false h300
 have hd2 : decide ((30 : Int) < (l.length : Int)) = false := decide_eq_false h30
 go_wp2_with (go_at_call 4; refine hal.mono ?_; rintro e w0 ⟨rfl, hb0⟩)
 have hrun := (KY sl l A0 c tk w0 (by omega) (HR.out.below hb0.out) (by omega)).mono (R' := fun e w' => (∃ r : Int, r ≠ 0 ∧ e = .returned (.tuple #[.slice none 0 0, .int .i64 r]) ∧ Hid (Below w0.heap.size w0 w')) ∨
  (∃ tn : Nat, tk = (tn : Int) ∧ 1 ≤ sl ∧ ∃ A1 c1, e = .returned (.tuple #[.slice A1 tn c1, .int .i64 0]) ∧ Hid (∃ xs, (∀ o ∈ l, Ls o) ∧ Below w0.heap.size w0 w' ∧ w'.ownsRow w0.heap.size 28 1 (.slice A1 tn c1) tn xs ∧ ∀ i, i < tn → ∃ x, xs[i]? = some x ∧ pQ w' x (Gg l sl i))))
  (fun e w' hh => by
   obtain ⟨hb, ⟨r, h1, h2⟩ | ⟨h1, h2, h3, v, xs, h4, h5, h6⟩⟩ := hh
   ·exact .inl ⟨r, h1, h2, Lib.hid hb⟩
   ·obtain ⟨tn, rfl⟩ : ∃ tn : Nat, tk = (tn : Int) := ⟨tk.toNat, by omega⟩
    rw [Int.toNat_natCast] at h5 h6
    obtain ⟨A1, c1, rfl⟩ : ∃ A1 c1, v = .slice A1 tn c1 := by
     rcases h5.2 with ⟨hv, hn⟩ | ⟨g, cap, cur, hv, _⟩
     ·exact ⟨none, 0, by rw [hv, hn]⟩
     ·exact ⟨_, _, hv⟩
    exact .inr ⟨tn, rfl, h2, A1, c1, h4, Lib.hid ⟨xs, h3, hb, h5, h6⟩⟩)
 clear hal
 refine hrun.mono ?_
 rintro e w1 (⟨r, hr0, rfl, hb1⟩ | ⟨tn, rfl, hsl, A1, c1, rfl, hx⟩)
 ·have hbb : Below w.heap.size w w1 := ⟨hb1.out.os.trans hb0.out.os, hb1.out.tape.trans hb0.out.tape, hb1.out.output.trans hb0.out.output, Nat.le_trans hb0.out.size hb1.out.size, fun k hk => (hb1.out.block k (Nat.lt_of_lt_of_le hk hb0.out.size)).trans (hb0.out.block k hk)⟩
  have HB := Lib.hid hbb
  clear hbb hrun hal
  go_wp2
  go_ret
  exact ⟨rfl, HB.out⟩
 ·obtain ⟨i3, hi3, hz30, hz31, hz32⟩ := info_parts (show (Tryz.prog.info? 3).map (fun i => (i.zero, i.size, i.bytes)) = some (some (.int .i64 0), 1, 8) by kernel_rfl)
  obtain ⟨i33, hi33, hz330, hz331, hz332⟩ := info_parts (show (Tryz.prog.info? 33).map (fun i => (i.zero, i.size, i.bytes)) = some (some (.agg #[.int .i64 0, .int .i64 0, .int .i64 0]), 3, 24) by kernel_rfl)
  obtain ⟨wa, hma, howna, hga⟩ := run_makeSlice_full (P := Tryz.prog) (w := w1.drew) w1.heap.size 28 3 i3 (.int .i64 0) 1 Tryz.underlying28 hi3 hz30 hz31 .i64 .i64 l.length (by omega) (by rw [hz32]; omega) (by unfold maxLen; omega) (Nat.le_refl _)
  obtain ⟨wb, hmb, hownb, hgb⟩ := run_makeSlice_full (P := Tryz.prog) (w := wa) w1.heap.size 28 3 i3 (.int .i64 0) 1 Tryz.underlying28 hi3 hz30 hz31 .i64 .i64 l.length (by omega) (by rw [hz32]; omega) (by unfold maxLen; omega) hga.size
  have hTT := TI.start howna hga hownb hgb
  have HTT := Lib.hid hTT
  clear howna hga hownb hgb hrun hal hTT
  go_wp2
  apply RH (fun x y W2 => ∃ gL gU, x = .slice (some ⟨gL, 0, none⟩) l.length l.length ∧ y = .slice (some ⟨gU, 0, none⟩) l.length l.length ∧ TI l w1 gL gU W2 (fun _ => 0) (fun _ => 0) (.slice none 0 0) [] [])
  case use =>
   intro key
   have KEY := Lib.hid key
   clear key
   go_region
   ·generalize hx : Value.slice (some ⟨w1.heap.size, 0, none⟩) l.length l.length = x
    generalize hy : Value.slice (some ⟨wa.heap.size, 0, none⟩) l.length l.length = y
    exact KEY.out x y wb ⟨_, _, hx.symm, hy.symm, HTT.out.1⟩
   ·generalize hx : Value.slice (some ⟨wa.heap.size, 0, none⟩) l.length l.length = x
    generalize hy : Value.slice (some ⟨w1.heap.size, 0, none⟩) l.length l.length = y
    exact KEY.out x y wb ⟨_, _, hx.symm, hy.symm, HTT.out.2⟩
  case key =>
   rintro x y W2 ⟨gL, gU, rfl, rfl, hT⟩
   clear hma hmb HTT
   obtain ⟨xs, hokl, hb1, hownR, hin⟩ := hx.out
   have hR1 := (HR.out.below hb0.out).below hb1
   have HT := Lib.hid (And.intro hT (And.intro hokl (And.intro hb1 (And.intro hownR (And.intro hin hR1)))))
   clear hT hx hokl hb1 hownR hin hR1
   go_wp2
   go_loopw [11, 48] (fun v11 v48 wt => ∃ (t : Nat) (ops : List RO) (f : Nat → Int), t ≤ tn ∧ v48 = .int .i64 t ∧ ops.length ≤ t * 40 ∧ TI l w1 gL gU wt f (qs l sl t).u v11 ops (qs l sl t).L ∧ ∀ j, j < l.length → (cq l j).1 < t → f j = (qs l sl t).w j) (fun _ v48 _ => tn - (intOf v48).toNat)
   case atStart => exact ⟨0, [], fun _ => 0, Nat.zero_le _, rfl, by simp, HT.out.1, fun j hj h => absurd h (by have := (pJ HT.out.2.1 j).1; omega)⟩
   case round =>
    obtain ⟨t, ops, f, ht, rfl, hn, hT, hf⟩ := hrel
    rename World => wt
    by_cases htn : t < tn
    ·have hti : (t : Int) < (tn : Int) := by omega
     obtain ⟨A2, c2, rfl, -, -⟩ := hT.rowAt
     have HQ := Lib.hid (And.intro hT hf)
     clear hT hf
     go_wp2
     go_loopw [11, 53] (fun v11 v53 wx => ∃ (k : Nat) (ops : List RO) (f : Nat → Int), k ≤ l.length ∧ v53 = .int .i64 k ∧ ops.length ≤ t * 40 + k ∧ TI l w1 gL gU wx f (qs l sl t).u v11 ops (arr l t k (qs l sl t).L) ∧ ∀ j, j < l.length → ((cq l j).1 < t ∨ ((cq l j).1 = t ∧ j < k)) → f j = (qs l sl t).w j) (fun _ v53 _ => l.length - (intOf v53).toNat)
     case atStart => exact ⟨0, ops, f, Nat.zero_le _, rfl, by omega, HQ.out.1, fun j hj h => HQ.out.2 j hj (by omega)⟩
     case round =>
      clear HQ
      obtain ⟨k, ops2, f2, hk, rfl, hn2, hT2, hf2⟩ := hrel
      obtain ⟨trn0, turn0, h00, hC0⟩ := PY HT.out.2.1 (sl := sl) t
      obtain ⟨trn, turn, h0, hC⟩ := CU hC0 h00 k hk
      clear hC0 h00
      by_cases hkn : k < l.length
      ·have hki : (k : Int) < (l.length : Int) := by omega
       obtain ⟨b, of, rfl, hlt, c0, c1', c2'⟩ := HT.out.2.2.2.2.2 k _ (DT hkn)
       have c0 : wr.cell? ⟨b, of + k * 3, none⟩ = some (.int .i64 (cq l k).1) := (hT2.bl.cell (p := ⟨b, of + k * 3, none⟩) hlt).trans c0
       have c1' : wr.cell? ⟨b, of + k * 3 + 1, none⟩ = some (.int .i64 (lvl l k)) := (hT2.bl.cell (p := ⟨b, of + k * 3 + 1, none⟩) hlt).trans c1'
       have c2' : wr.cell? ⟨b, of + k * 3 + 2, none⟩ = some (.int .i64 (cq l k).2.2) := (hT2.bl.cell (p := ⟨b, of + k * 3 + 2, none⟩) hlt).trans c2'
       have cL := hT2.rl.cell hkn
       have fz := hT2.rl.fz
       have hgl := hT2.rl.lt
       have hlk := pJ HT.out.2.1 k
       by_cases hcome : (cq l k).1 = t
       ·have hkM : k ∉ arr l t k (qs l sl t).L := fun hm => by
         have := ((hC.mem k).1 hm).2.1
         omega
        have hwk := hC.new k (by omega)
        have hf3 : ∀ j, j < l.length → ((cq l j).1 < t ∨ ((cq l j).1 = t ∧ j < k + 1)) → bP f2 k (cq l k).2.2 j = (qs l sl t).w j := fun j hj h => by
         by_cases e : j = k
         ·subst e
          rw [cw]
          exact hwk.symm
         ·rw [cc _ _ e]
          exact hf2 j hj (by omega)
        have hT3 := (hT2.xb hkn (cq l k).2.2).alloc (.cells #[.int .i64 (cq l k).1, .int .i64 (lvl l k), .int .i64 (cq l k).2.2] 31)
        rw [hcome] at hT3
        by_cases hw : 0 < (cq l k).2.2
        ·have hrel := DJ hkM hlk.2.2.1 hlk.2.2.2.1 (by have := hC.len; omega)
         have hT4 := hT3.alloc (.cells #[.int .i64 1, .int .i64 k, .int .i64 (lvl l k)] 33)
         have hsz : ((wr.setCell ⟨gL, k, none⟩ (.int .i64 (cq l k).2.2)).alloc (.cells #[.int .i64 t, .int .i64 (lvl l k), .int .i64 (cq l k).2.2] 31)).heap.size = wr.heap.size + 1 := by simp [World.setCell]
         have hnew : ∀ j u, [Value.int .i64 1, .int .i64 k, .int .i64 (lvl l k)][j]? = some u → (((wr.setCell ⟨gL, k, none⟩ (.int .i64 (cq l k).2.2)).alloc (.cells #[.int .i64 t, .int .i64 (lvl l k), .int .i64 (cq l k).2.2] 31)).alloc (.cells #[.int .i64 1, .int .i64 k, .int .i64 (lvl l k)] 33)).cell? ((⟨wr.heap.size + 1, 0, none⟩ : Addr).add j) = some u := fun j u hj => by
          have := iM ((wr.setCell ⟨gL, k, none⟩ (.int .i64 (cq l k).2.2)).alloc (.cells #[.int .i64 t, .int .i64 (lvl l k), .int .i64 (cq l k).2.2] 31)) (.cells #[.int .i64 1, .int .i64 k, .int .i64 (lvl l k)] 33)
          rw [hsz] at this
          rw [Addr.add_lit, Nat.zero_add]
          exact aQ this (by simpa using hj)
         have HN := Lib.hid hnew
         have hrow := hT4.own
         have HF := Lib.hid (And.intro hT4 (And.intro hf3 hrel))
         clear hC hT2 hT3 hT4 hf2 hf3 hrel hnew hsz hkM hwk hlk h0
         go_wp2_with (at_builtin; refine wpList_append_own_at _ rfl _ _ 29 rfl w1.heap.size 33 i33 (.agg #[.int .i64 0, .int .i64 0, .int .i64 0]) 3 24 Tryz.underlying29 hi33 hz330 hz331 hz332 rfl (by decide) _ _ _ rfl hrow ⟨wr.heap.size + 1, 0, none⟩ 1 1 [.int .i64 1, .int .i64 k, .int .i64 (lvl l k)] rfl rfl ?c1 ?c2 ?c3 ?c4 ?c5 ?_)
         case c1 =>
          intro j u hj
          exact HN.out j u hj
         case c2 =>
          intro u hu
          simp only [List.mem_cons, List.not_mem_nil, or_false] at hu
          rcases hu with rfl | rfl | rfl <;> rfl
         case c3 => unfold maxLen; omega
         case c4 => omega
         case c5 => exact HF.out.1.bs
         intro v' w3 hown' hgrow hnl hat
         have hfin : TI l w1 gL gU w3 (bP f2 k (cq l k).2.2) (qs l sl t).u v' (ops2 ++ [(1, (k : Int), lvl l k)]) (arr l t (k + 1) (qs l sl t).L) := by
          rw [qo hcome, if_pos hw]
          exact HF.out.1.snoc HF.out.2.2 hgrow hown' (hat.imp _root_.id fun ha => ⟨_, ha, by simp [World.setCell]⟩)
         obtain ⟨ao, n', cap, rfl⟩ : ∃ ao n' cap, v' = .slice ao n' cap := by
          rcases hown'.2 with ⟨hv, _⟩ | ⟨g, cap, cur, hv, _⟩
          ·exact ⟨_, _, _, hv⟩
          ·exact ⟨_, _, _, hv⟩
         have HFF := Lib.hid (And.intro hfin HF.out.2.1)
         clear hfin hown' hgrow hnl hat HF hrow HN
         go_wp2
         exact ⟨⟨k + 1, _, _, by omega, rfl, by rw [List.length_append, List.length_singleton]; omega, HFF.out⟩, by simp [intOf]; omega⟩
        ·have hT4 : TI l w1 gL gU ((wr.setCell ⟨gL, k, none⟩ (.int .i64 (cq l k).2.2)).alloc (.cells #[.int .i64 t, .int .i64 (lvl l k), .int .i64 (cq l k).2.2] 31)) (bP f2 k (cq l k).2.2) (qs l sl t).u u11 ops2 (arr l t (k + 1) (qs l sl t).L) := by
          rw [qo hcome, if_neg hw]
          exact hT3
         have HF := Lib.hid (And.intro hT4 hf3)
         clear hC hT2 hT3 hT4 hf2 hf3 hkM hwk hlk h0
         go_wp2
         exact ⟨⟨k + 1, _, _, by omega, rfl, by omega, HF.out⟩, by simp [intOf]; omega⟩
       ·have hT4 : TI l w1 gL gU (wr.alloc (.cells #[.int .i64 (cq l k).1, .int .i64 (lvl l k), .int .i64 (cq l k).2.2] 31)) f2 (qs l sl t).u u11 ops2 (arr l t (k + 1) (qs l sl t).L) := by
         rw [uQ hcome]
         exact hT2.alloc _
        have hf3 : ∀ j, j < l.length → ((cq l j).1 < t ∨ ((cq l j).1 = t ∧ j < k + 1)) → f2 j = (qs l sl t).w j := fun j hj h => hf2 j hj (by
         by_cases e : j = k
         ·subst e
          omega
         ·omega)
        have HF := Lib.hid (And.intro hT4 hf3)
        clear hC hT2 hT4 hf2 hf3 hlk h0
        go_wp2
        exact ⟨⟨k + 1, _, _, by omega, rfl, by omega, HF.out⟩, by simp [intOf]; omega⟩
      ·obtain rfl : k = l.length := by omega
       obtain ⟨A3, c3, rfl, hrow3, hcc⟩ := hT2.rowAt
       have e1 : qs l sl (t + 1) = zr l sl (qs l sl t).w (qs l sl t).u (arr l t l.length (qs l sl t).L) := rfl
       have hwho : Gg l sl t = (arr l t l.length (qs l sl t).L).take 1 := rfl
       have hplay := hT2.ch.T5 hrow3 (by omega) hcc (Nat.le_trans hC.len (by omega)) (hC.Lw.imp fun h => by unfold gC at h; omega) (fun j _ => ⟨(pJ HT.out.2.1 j).2.2.1, (pJ HT.out.2.1 j).2.2.2.1⟩)
       obtain ⟨x, hx, hin⟩ := HT.out.2.2.2.2.1 t htn
       obtain ⟨g1, hg1, hcx⟩ : ∃ g1, A1 = some ⟨g1, 0, none⟩ ∧ w1.cell? ⟨g1, t, none⟩ = some x := by
        have ho := HT.out.2.2.2.1
        rcases ho.2 with ⟨_, hn⟩ | ⟨g, cap, cur, hv, _⟩
        ·omega
        ·injection hv with hv
         subst hv
         exact ⟨g, rfl, sa ho hx⟩
       subst hg1
       have hcx' : wr.cell? ⟨g1, t, none⟩ = some x := (hT2.bl.cell (p := ⟨g1, t, none⟩) (bV hcx)).trans hcx
       have hge : ¬ tn ≤ t := by omega
       rw [hwho] at hin
       clear hx hwho hrow3
       generalize arr l t l.length (qs l sl t).L = M at *
       rcases M with _ | ⟨j, r⟩
       ·obtain ⟨xa, xc, rfl⟩ := hin.nil
        have hplay := hplay.mono (R' := fun e w' => ∃ v6 v7 a c, e = .returned (.tuple #[v6, v7, .slice a 0 c]) ∧ Hid (Below wr.heap.size wr w')) (fun e w' ⟨v6, v7, v8, h1, h2, h3⟩ => by
         obtain ⟨a, c, rfl⟩ := Gt h2
         exact ⟨v6, v7, a, c, h1, Lib.hid h3⟩)
        have HF := Lib.hid (And.intro hT2 (And.intro hf2 (And.intro e1 hcx')))
        clear hT2 hf2 hC hcx hcx' h0 e1 hin
        go_wp2_with (go_at_call 6; refine hplay.mono ?_; rintro e w4 ⟨v6, v7, a, c, rfl, hb4⟩; refine Hid.out ?_)
        refine Lib.hid ?_
        have hcx4 : w4.cell? ⟨g1, t, none⟩ = some (.slice xa 0 xc) := (hb4.out.cell (p := ⟨g1, t, none⟩) (bV HF.out.2.2.2)).trans HF.out.2.2.2
        clear hplay
        go_wp2
        refine ⟨⟨t + 1, ops2, f2, by omega, rfl, by omega, ?_, fun j hj h => ?_⟩, by simp [intOf]; omega⟩
        ·rw [HF.out.2.2.1]
         exact HF.out.1.below hb4.out
        ·rw [HF.out.2.2.1]
         exact HF.out.2.1 j hj (by omega)
       ·obtain ⟨gx, xc, rfl, hcg⟩ := hin.one
        have hj := (hC.mem j).1 (List.mem_cons_self ..)
        have hnd := hC.nd
        have hso : (j :: r).Pairwise (fun a b => lvl l b ≤ lvl l a) := hC.Lw.imp fun h => by unfold gC at h; omega
        have hlen := hC.len
        rw [List.length_cons] at hlen
        have hcg' : wr.cell? ⟨gx, 0, none⟩ = some (.int .i64 j) := (hT2.bl.cell (p := ⟨gx, 0, none⟩) (bV hcg)).trans hcg
        have hplay := hplay.mono (R' := fun e w' => ∃ v6 v7 g8 c8, e = .returned (.tuple #[v6, v7, .slice (some ⟨g8, 0, none⟩) (r.length + 1) c8]) ∧ Hid (w'.cell? ⟨g8, 0, none⟩ = some (.int .i64 j) ∧ Below wr.heap.size wr w')) (fun e w' ⟨v6, v7, v8, h1, h2, h3⟩ => by
         obtain ⟨g8, c8, rfl, h4⟩ := EO h2
         exact ⟨v6, v7, g8, c8, h1, Lib.hid ⟨h4, h3⟩⟩)
        obtain ⟨b, of, rfl, hlt, -, cl, -⟩ := HT.out.2.2.2.2.2 j _ (DT hj.1)
        have cl : w1.cell? ⟨b, of + j * 3 + 1, none⟩ = some (.int .i64 (lvl l j)) := cl
        have HF := Lib.hid (And.intro hT2 (And.intro hf2 (And.intro e1 (And.intro hcx' (And.intro hcg' (And.intro cl (And.intro hnd (And.intro hso (And.intro hlen hj)))))))))
        have hji : (j : Int) < (l.length : Int) := by omega
        have hmin : min 1 (r.length + 1) = 1 := by omega
        clear hT2 hf2 hC hcx hcx' hcg hcg' h0 e1 hin hnd hso hlen hj cl
        go_wp2_with (go_at_call 6; refine hplay.mono ?_; rintro e w4 ⟨v6, v7, g8, c8, rfl, h48⟩; refine Hid.out ?_)
        refine Lib.hid ?_
        have hb4 := h48.out.2
        have c84 := h48.out.1
        have hcx4 : w4.cell? ⟨g1, t, none⟩ = some (.slice (some ⟨gx, 0, none⟩) 1 xc) := (hb4.cell (p := ⟨g1, t, none⟩) (bV HF.out.2.2.2.1)).trans HF.out.2.2.2.1
        have hcg4 : w4.cell? ⟨gx, 0, none⟩ = some (.int .i64 j) := (hb4.cell (p := ⟨gx, 0, none⟩) (bV HF.out.2.2.2.2.1)).trans HF.out.2.2.2.2.1
        have hT4 := HF.out.1.below hb4
        have hT5 := hT4.alloc (.cells #[.int .i64 3, .int .i64 0, .int .i64 0] 33)
        have hrow := hT5.own
        have HF2 := Lib.hid (And.intro hT4 hT5)
        clear hT4 hT5 hb4 hplay h48
        go_wp2_with (at_builtin; refine wpList_append_own_at _ rfl _ _ 29 rfl w1.heap.size 33 i33 (.agg #[.int .i64 0, .int .i64 0, .int .i64 0]) 3 24 Tryz.underlying29 hi33 hz330 hz331 hz332 rfl (by decide) _ _ _ rfl hrow ⟨w4.heap.size, 0, none⟩ 1 1 [.int .i64 3, .int .i64 0, .int .i64 0] rfl rfl ?c1 ?c2 ?c3 ?c4 ?c5 ?_)
        case c1 =>
         intro j' u hj'
         have := iM w4 (.cells #[.int .i64 3, .int .i64 0, .int .i64 0] 33)
         rw [Addr.add_lit, Nat.zero_add]
         exact aQ this (by simpa using hj')
        case c2 =>
         intro u hu
         simp only [List.mem_cons, List.not_mem_nil, or_false] at hu
         rcases hu with rfl | rfl | rfl <;> rfl
        case c3 => unfold maxLen; omega
        case c4 => omega
        case c5 => exact HF2.out.2.bs
        intro v' w5 hown' hgrow hnl hat
        obtain ⟨-, hf2, e1, -, -, cl, hnd, hso, hlen, hj⟩ := HF.out
        have hlk := pJ HT.out.2.1 j
        have hfin : TI l w1 gL gU w5 f2 (qs l sl t).u v' (ops2 ++ [(3, 0, 0)]) r := HF2.out.2.snoc (H3 hnd hso hlk.2.2.1 hlk.2.2.2.1) hgrow hown' (hat.imp _root_.id fun ha => ⟨_, ha, by simp⟩)
        have hn3 : (ops2 ++ [((3 : Int), (0 : Int), (0 : Int))]).length ≤ t * 40 + l.length + 1 := by
         rw [List.length_append, List.length_singleton]
         omega
        clear hown' hat hnl hgrow
        generalize ops2 ++ [((3 : Int), (0 : Int), (0 : Int))] = ops3 at *
        obtain ⟨A5, c5, rfl, -, -⟩ := hfin.rowAt
        have hwj := hf2 j hj.1 (by omega)
        have hq := JO l sl t
        have hq1 := hq.1 j
        have hq2 := hq.2 j
        have cL := hfin.rl.cell hj.1
        have cU := hfin.ru.cell hj.1
        have fzL := hfin.rl.fz
        have fzU := hfin.ru.fz
        have hgL := hfin.rl.lt
        have hgU := hfin.ru.lt
        have hne := hfin.ne
        have hbL : b ≠ gL := by have := hfin.lo.1; omega
        have hbU : b ≠ gU := by have := hfin.lo.2; omega
        have cl5 : w5.cell? ⟨b, of + j * 3 + 1, none⟩ = some (.int .i64 (lvl l j)) := (hfin.bl.cell (p := ⟨b, of + j * 3 + 1, none⟩) hlt).trans cl
        have hw0 : 0 < f2 j := by rw [hwj]; exact hj.2.2
        have hl5 : (cq l j).2.2 ≤ 10000 := hlk.2.2.2.2.2
        have hw1 : f2 j ≤ 10000 := by rw [hwj]; omega
        have hu0 : 0 ≤ (qs l sl t).u j := hq2.1
        have hu1 : (qs l sl t).u j ≤ t := hq2.2
        have hjr : j ∉ r := (List.nodup_cons.1 hnd).1
        have hT6 := (hfin.xb hj.1 (f2 j - 1)).Vs hj.1 ((qs l sl t).u j + 1)
        have hL6 : ∀ W vv (ops' : List RO) L', L' = (if 0 < (qs l sl t).w j - 1 then (if ((qs l sl t).u j + 1) % sl = 0 then ins l j r else j :: r) else r) → TI l w1 gL gU W (bP f2 j (f2 j - 1)) (bP (qs l sl t).u j ((qs l sl t).u j + 1)) vv ops' L' → TI l w1 gL gU W (bP f2 j (f2 j - 1)) (qs l sl (t + 1)).u vv ops' (qs l sl (t + 1)).L := fun W vv ops' L' e h => by
         rw [e1]
         rw [e] at h
         exact h
        have hf6 : ∀ i, i < l.length → (cq l i).1 < ((t + 1 : Nat) : Int) → bP f2 j (f2 j - 1) i = (qs l sl (t + 1)).w i := fun i hi h => by
         rw [e1]
         show _ = bP (qs l sl t).w j ((qs l sl t).w j - 1) i
         rw [hwj]
         by_cases e : i = j
         ·subst e
          rw [cw, cw]
         ·rw [cc _ _ e, cc _ _ e]
          exact hf2 i hi (by omega)
        have hgen : f2 j = (qs l sl t).w j := hwj
        have HG := Lib.hid (And.intro hT6 (And.intro hL6 (And.intro hf6 (And.intro hlk (And.intro hjr (And.intro hlen hgen))))))
        clear hT6 hL6 hf6 hlk hjr hf2 e1 cl hnd hso hj hfin hq hq1 hq2 HF HF2 hrow hcx4 hcg4 c84 hwj hgen
        generalize hfj : f2 j = fj at *
        generalize huj : (qs l sl t).u j = uj at *
        have hmod : (uj + 1).tmod sl = (uj + 1) % sl := Int.tmod_eq_emod_of_nonneg (by omega)
        by_cases hw : 0 < fj - 1
        ·by_cases hm : (uj + 1) % sl = 0
         ·have hmz : (uj + 1).tmod sl = 0 := by rw [hmod, hm]
          have hT7 := HG.out.1.alloc (.cells #[.int .i64 1, .int .i64 j, .int .i64 (lvl l j)] 33)
          have hrow := hT7.own
          go_wp2_with (at_builtin; refine wpList_append_own_at _ rfl _ _ 29 rfl w1.heap.size 33 i33 (.agg #[.int .i64 0, .int .i64 0, .int .i64 0]) 3 24 Tryz.underlying29 hi33 hz330 hz331 hz332 rfl (by decide) _ _ _ rfl hrow ⟨w5.heap.size, 0, none⟩ 1 1 [.int .i64 1, .int .i64 j, .int .i64 (lvl l j)] rfl rfl ?c1 ?c2 ?c3 ?c4 ?c5 ?_)
          case c1 =>
           intro j' u hj'
           have := iM ((w5.setCell ⟨gL, j, none⟩ (.int .i64 (fj - 1))).setCell ⟨gU, j, none⟩ (.int .i64 (uj + 1))) (.cells #[.int .i64 1, .int .i64 j, .int .i64 (lvl l j)] 33)
           rw [show ((w5.setCell ⟨gL, j, none⟩ (.int .i64 (fj - 1))).setCell ⟨gU, j, none⟩ (.int .i64 (uj + 1))).heap.size = w5.heap.size by simp [World.setCell]] at this
           rw [Addr.add_lit, Nat.zero_add]
           exact aQ this (by simpa using hj')
          case c2 =>
           intro u hu
           simp only [List.mem_cons, List.not_mem_nil, or_false] at hu
           rcases hu with rfl | rfl | rfl <;> rfl
          case c3 => unfold maxLen; omega
          case c4 => omega
          case c5 => exact hT7.bs
          intro v' w6 hown' hgrow hnl hat
          have hfin := HG.out.2.1 w6 v' (ops3 ++ [(1, (j : Int), lvl l j)]) (ins l j r) (by rw [if_pos (by rw [← HG.out.2.2.2.2.2.2]; exact hw), if_pos hm]) (hT7.snoc (DJ HG.out.2.2.2.2.1 HG.out.2.2.2.1.2.2.1 HG.out.2.2.2.1.2.2.2.1 (by omega)) hgrow hown' (hat.imp _root_.id fun ha => ⟨_, ha, by simp [World.setCell]⟩))
          clear hT7 hrow hown' hgrow hnl hat
          go_wp2
          exact ⟨⟨t + 1, _, _, by omega, rfl, by rw [List.length_append, List.length_singleton]; omega, hfin, fun i hi h => HG.out.2.2.1 i hi h⟩, by simp [intOf]; omega⟩
         ·have hmz : ¬ (uj + 1).tmod sl = 0 := by rw [hmod]; exact hm
          have hT7 := HG.out.1.alloc (.cells #[.int .i64 2, .int .i64 j, .int .i64 (lvl l j)] 33)
          have hrow := hT7.own
          go_wp2_with (at_builtin; refine wpList_append_own_at _ rfl _ _ 29 rfl w1.heap.size 33 i33 (.agg #[.int .i64 0, .int .i64 0, .int .i64 0]) 3 24 Tryz.underlying29 hi33 hz330 hz331 hz332 rfl (by decide) _ _ _ rfl hrow ⟨w5.heap.size, 0, none⟩ 1 1 [.int .i64 2, .int .i64 j, .int .i64 (lvl l j)] rfl rfl ?c1 ?c2 ?c3 ?c4 ?c5 ?_)
          case c1 =>
           intro j' u hj'
           have := iM ((w5.setCell ⟨gL, j, none⟩ (.int .i64 (fj - 1))).setCell ⟨gU, j, none⟩ (.int .i64 (uj + 1))) (.cells #[.int .i64 2, .int .i64 j, .int .i64 (lvl l j)] 33)
           rw [show ((w5.setCell ⟨gL, j, none⟩ (.int .i64 (fj - 1))).setCell ⟨gU, j, none⟩ (.int .i64 (uj + 1))).heap.size = w5.heap.size by simp [World.setCell]] at this
           rw [Addr.add_lit, Nat.zero_add]
           exact aQ this (by simpa using hj')
          case c2 =>
           intro u hu
           simp only [List.mem_cons, List.not_mem_nil, or_false] at hu
           rcases hu with rfl | rfl | rfl <;> rfl
          case c3 => unfold maxLen; omega
          case c4 => omega
          case c5 => exact hT7.bs
          intro v' w6 hown' hgrow hnl hat
          have hfin := HG.out.2.1 w6 v' (ops3 ++ [(2, (j : Int), lvl l j)]) (j :: r) (by rw [if_pos (by rw [← HG.out.2.2.2.2.2.2]; exact hw), if_neg hm]) (hT7.snoc (Kb HG.out.2.2.2.2.1 HG.out.2.2.2.1.2.2.1 HG.out.2.2.2.1.2.2.2.1 (by omega)) hgrow hown' (hat.imp _root_.id fun ha => ⟨_, ha, by simp [World.setCell]⟩))
          clear hT7 hrow hown' hgrow hnl hat
          go_wp2
          exact ⟨⟨t + 1, _, _, by omega, rfl, by rw [List.length_append, List.length_singleton]; omega, hfin, fun i hi h => HG.out.2.2.1 i hi h⟩, by simp [intOf]; omega⟩
        ·go_wp2
         exact ⟨⟨t + 1, _, _, by omega, rfl, by omega, HG.out.2.1 _ _ _ r (by rw [if_neg (by rw [← HG.out.2.2.2.2.2.2]; exact hw)]) HG.out.1, fun i hi h => HG.out.2.2.1 i hi h⟩, by simp [intOf]; omega⟩
    ·obtain rfl : t = tn := by omega
     have hbb : Below w.heap.size w wt := hb0.out.trans ((HT.out.2.2.1.mono hb0.out.size).trans (hT.bl.mono (Nat.le_trans hb0.out.size HT.out.2.2.1.size)))
     have HB := Lib.hid hbb
     clear hbb hT hf HT
     go_wp2
     go_ret
     exact ⟨rfl, HB.out⟩
end Go.Proofs.YtlnlichdidobpaaGreatDoor.Turns
namespace Go.Proofs.YtlnlichdidobpaaGreatDoor.Turns
open Go.Sx
set_option maxRecDepth 100000
set_option maxHeartbeats 4000000
set_option linter.unusedSimpArgs false
set_option linter.unusedVariables false
open Go Go.Proofs Go.RowKit Go.Shelf
theorem Hm (hl : aX Tryz.prog 4 iK) : aX Tryz.prog 3 yk := by
 refine ⟨⟨Tryz.f3, Tryz.func3, by kernel_rfl, by kernel_rfl⟩, fun S w args x hS hgl hargs hpre => ?_⟩
 obtain ⟨sl, l, tk, u⟩ := x
 change Int at sl
 change List RO at l
 change Int at tk
 obtain ⟨vs⟩ := args
 have hal : Calls Tryz.prog 4 #[] w fun e w' => e = .returned (.bool true) ∧ Below w.heap.size w w' := by
  refine (hl.2 S w #[] () hS hgl trivial trivial).mono fun e w' h => ?_
  obtain ⟨v, rfl, hv, hb⟩ := h
  have e1 : [v] = [Value.bool true] := hv
  injection e1 with e1
  subst e1
  exact ⟨rfl, hb⟩
 match vs, hargs with
 | [], h => exact h.elim
 | [_], h => exact h.2.elim
 | [_, _], h => exact h.2.2.elim
 | [v0, v1, v2], h =>
  obtain ⟨e0, -⟩ : [v0] = [Value.int .i64 sl] ∧ IR .i64 sl := h.1
  obtain ⟨A, c, h1, hc, hm, hA⟩ : ∃ A c, [v1] = [Value.slice A l.length c] ∧ l.length ≤ c ∧ c ≤ maxLen ∧
   (0 < l.length → ∃ b o, A = some ⟨b, o, none⟩ ∧ S b ∧ ∀ (i : Nat) x, l[i]? = some x → ∃ l, (∀ (j : Nat) v, l[j]? = some v → w.cell? ⟨b, o + (i * 3 + j), none⟩ = some v) ∧ Rd S w AX l x) := h.2.1
  obtain ⟨e2, -⟩ : [v2] = [Value.int .i64 tk] ∧ IR .i64 tk := h.2.2.1
  injection e0 with e0
  injection h1 with h1
  injection e2 with e2
  subst e0 h1 e2
  refine (Dy sl tk l A c w (fun i o hi => ?_) hal).mono fun e w' h => ?_
  ·obtain ⟨b, of, h1, h2, h3⟩ := hA (Nat.lt_of_le_of_lt (Nat.zero_le _) (List.getElem?_eq_some_iff.1 hi).1)
   obtain ⟨cs, h4, _, _, rfl, ⟨rfl, -⟩, _, _, rfl, ⟨rfl, -⟩, rfl, -⟩ := h3 i o hi
   exact ⟨b, of, h1, hS b h2, by have := h4 0 _ rfl; rwa [Nat.add_zero] at this, by have := h4 1 _ rfl; rwa [← Nat.add_assoc] at this, by have := h4 2 _ rfl; rwa [← Nat.add_assoc] at this⟩
  ·obtain ⟨rfl, hb⟩ := h
   exact ⟨_, rfl, rfl, hb⟩
 | _ :: _ :: _ :: _ :: _, h => exact h.2.2.2.elim
end Go.Proofs.YtlnlichdidobpaaGreatDoor.Turns
