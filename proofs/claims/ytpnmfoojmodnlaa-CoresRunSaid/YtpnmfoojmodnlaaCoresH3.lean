/-
  slices.SortFunc of pointers to threads keeps its contract: a slice of our own is sorted behind it.
-/
import Derived.Test.YtpnmfoojmodnlaaCoresC
import Derived.Test.YtpnmfoojmodnlaaCoresH1
import Derived.Test.YtpnmfoojmodnlaaCoresH2
namespace Go.Proofs.Ytpnmfoojmodnlaa.Cores
open Go.Sx
set_option maxRecDepth 100000
set_option maxHeartbeats 4000000
set_option linter.unusedSimpArgs false
set_option linter.unusedVariables false

open Go Go.Proofs Go.Shelf Go.Sort Go.RowKit
theorem rowR_done {w0 : Base} {ρ : Nat → Value} {w w' : World} {a : Act} {u : Ty} {xs ys : List u.D} {fr : List SV} {nx : Nat} {rest : List (Nat × HE)}
    (h : Ok w0 ρ { fr := fr, hp := assoc ((1, .row u xs) :: rest), us := fun n => (assoc ((1, HE.row u xs) :: rest) n).isSome, nx := nx, bk := [] } a w)
    (hb : BelowS w0.old w w') (hold : ∀ b, b < w.heap.size → blkOf (ρ 1) ≠ some b → w'.heap[b]? = w.heap[b]?)
    (hhe : ∀ c' : Cx, (cx w0 ρ { fr := fr, hp := assoc ((1, .row u xs) :: rest), us := fun n => (assoc ((1, HE.row u xs) :: rest) n).isSome, nx := nx, bk := [] } w).le c' → c'.w = w' → c'.ρ = ρ → HEc c' 1 (.row u ys)) :
    Ok w0 ρ (hpOf ((1, .row u ys) :: rest)) { tmps := #[], defers := [] } w' := by
  have hB : ∀ b, Bk (.row u ys) (ρ 1) b → Bk (.row u xs) (ρ 1) b ∨ (w.heap.size ≤ b ∧ b < w'.heap.size) := fun b hb => .inl hb
  have hle := upd_le (he := .row u ys) (w' := w') h (k := 1) rfl hB hb.size (fun b h1 h2 => hold b h1 h2)
  have hok := h.upd (he := .row u ys) (k := 1) rfl hB hb (fun b h1 h2 => hold b h1 h2) (hhe _ hle rfl rfl)
  have key : ∀ (n : Nat) (he he' : HE), n ≠ 1 → assoc ((1, he) :: rest) n = assoc ((1, he') :: rest) n := fun n he he' e => by
    have e2 : Nat.beq n 1 = false := by
      cases h : Nat.beq n 1
      · rfl
      · exact absurd (Nat.eq_of_beq_eq_true h) e
    simp [assoc, e2]
  have hhp : (St.upd { fr := fr, hp := assoc ((1, .row u xs) :: rest), us := fun n => (assoc ((1, HE.row u xs) :: rest) n).isSome, nx := nx, bk := [] } 1 (.row u ys)).hp = assoc ((1, .row u ys) :: rest) := by
    funext n
    show hset _ 1 _ n = _
    by_cases e : n = 1
    · subst e; rfl
    · rw [hset_other _ _ e]
      exact key n _ _ e
  have hus : (St.upd { fr := fr, hp := assoc ((1, .row u xs) :: rest), us := fun n => (assoc ((1, HE.row u xs) :: rest) n).isSome, nx := nx, bk := [] } 1 (.row u ys)).us = fun n => (assoc ((1, HE.row u ys) :: rest) n).isSome := by
    funext n
    show (assoc ((1, HE.row u xs) :: rest) n).isSome = _
    by_cases e : n = 1
    · subst e; rfl
    · rw [key n _ (.row u ys) e]
  generalize St.upd { fr := fr, hp := assoc ((1, .row u xs) :: rest), us := fun n => (assoc ((1, HE.row u xs) :: rest) n).isSome, nx := nx, bk := [] } 1 (.row u ys) = s2 at hok hhp hus
  obtain ⟨fr2, hp2, us2, nx2, bk2⟩ := s2
  simp only [] at hhp hus
  subst hhp; subst hus
  exact { defers := rfl, below := hok.below, len := rfl, frame := fun i => trivial, back := fun i => trivial, heap := hok.heap, used := hok.used, fresh := hok.fresh, apart := hok.apart }
theorem two_argsR {w0 : Base} {ρ : Nat → Value} {w : World} {vs : Array Value} {u : Ty} {xs : List u.D} {nx f : Nat} {rest : List (Nat × HE)}
    (h : Ok w0 ρ { fr := [.one (.row 1), .one (.con (.func (.func f) #[] #[]))], hp := assoc ((1, .row u xs) :: rest), us := fun n => (assoc ((1, HE.row u xs) :: rest) n).isSome, nx := nx, bk := [] } { tmps := vs, defers := [] } w) : vs = #[ρ 1, .func (.func f) #[] #[]] := by
  have hl : vs.size = 2 := h.len.symm
  have h1 := (List.cons.inj (SVc.one1 (p := .row 1) rfl (by simp) (h.frame 0)).2.1).1
  have h2 := SVc.one1 (p := .con (.func (.func f) #[] #[])) rfl (by simp) (h.frame 1)
  obtain ⟨l⟩ := vs
  match l, hl with
  | [v, v'], _ =>
    have h3 : v = ρ 1 := h1
    have h4 : [v'] = [.func (.func f) #[] #[]] := h2.1
    rw [h3, (List.cons.inj h4).1]
/- The order. -/
def cfT (m : PM) (xs : List Int) (x y : { a : Int // a ∈ xs }) : Int := if cmpI (levO m y.1) (levO m x.1) = 0 then cmpI (trnO m x.1) (trnO m y.1) else cmpI (levO m y.1) (levO m x.1)
theorem ltT (m : PM) (xs : List Int) (x y : { a : Int // a ∈ xs }) : ltOf (cfT m xs) x y = keyLt m x.1 y.1 := by
  unfold ltOf cfT keyLt cmpI
  rw [Bool.eq_iff_iff]
  simp only [decide_eq_true_eq, Bool.or_eq_true, Bool.and_eq_true]
  repeat' split
  all_goals omega
theorem keyLt_iff {m : PM} {x y : Int} : keyLt m x y = true ↔ (levO m y < levO m x ∨ (levO m x = levO m y ∧ trnO m x < trnO m y)) := by unfold keyLt; simp
theorem keyLt_not {m : PM} {x y : Int} : keyLt m x y = false ↔ ¬ (levO m y < levO m x ∨ (levO m x = levO m y ∧ trnO m x < trnO m y)) := by rw [← keyLt_iff]; simp
theorem swoT (m : PM) (xs : List Int) : SWO (ltOf (cfT m xs)) where
  irrefl x := by rw [ltT, keyLt_not]; omega
  trans x y z h1 h2 := by rw [ltT, keyLt_iff] at *; omega
  ntrans x y z h1 h2 := by rw [ltT, keyLt_not] at *; omega
def encT (xs : List Int) (x : { a : Int // a ∈ xs }) : Value := .pointer (some ⟨x.1.toNat, 0, none⟩)
/- A thread's cells. -/
theorem thr_cells {S : Nat → Prop} {w : World} {cs : List Value} {v : TP} (h : Rd S w tythread cs v) : ∃ a b c d : Value, cs = [a, .int .i64 v.1.2.1, b, c, .int .i64 v.2.2.1, d] := by
  obtain ⟨l1, m1, rfl, ⟨l2, m2, rfl, ⟨rfl, _⟩, ⟨l3, m3, rfl, ⟨rfl, _⟩, ⟨rfl, _⟩⟩⟩, ⟨l4, m4, rfl, ⟨rfl, _⟩, ⟨l5, m5, rfl, ⟨rfl, _⟩, ⟨rfl, _⟩⟩⟩⟩ := h
  exact ⟨_, _, _, _, rfl⟩
theorem refs_cell {S : Nat → Prop} {w : World} {cur : Array Value} {o : Nat} {xs : List Int} (h : ∀ (i : Nat) (x : Int), xs[i]? = some x → Rd S w (.ref 0) ((cur.toList.drop (o + i * 1)).take 1) x) {i : Nat} {x : Int} (hi : xs[i]? = some x) (hx : 0 ≤ x) :
    cur[o + i]? = some (.pointer (some ⟨x.toNat, 0, none⟩)) := by
  have h1 : (cur.toList.drop (o + i * 1)).take 1 = [Value.pointer (some ⟨x.toNat, 0, none⟩)] := by
    rcases h i x hi with ⟨e, _⟩ | ⟨_, h1⟩
    · have e : x = -1 := e
      omega
    · exact h1
  have h4 : ((cur.toList.drop (o + i * 1)).take 1)[0]? = some (.pointer (some ⟨x.toNat, 0, none⟩)) := by rw [h1]; rfl
  rw [List.getElem?_take, if_pos (by omega), List.getElem?_drop] at h4
  simpa using h4
theorem sortT_perm (m : PM) (l : List Int) : (sortT m l).Perm l := List.mergeSort_perm _ _
theorem sortT_val (m : PM) (xs : List Int) (l : List { a : Int // a ∈ xs }) : (l.mergeSort fun x y => !(ltOf (cfT m xs)) y x).map Subtype.val = sortT m (l.map Subtype.val) := by
  unfold sortT
  exact List.map_mergeSort fun a _ b _ => by rw [ltT]
theorem c_sortt : PrcOk Try.prog 48 pSortT := by
  refine ⟨⟨Try.f48, Try.func48, by kernel_rfl, by kernel_rfl⟩, ?_⟩
  intro w0 ρ w vs x h hp _
  obtain ⟨xs, m, u⟩ := x
  have h : Sx.Ok w0 ρ { fr := [.one (.row 1), .one (.con (.func (.func 49) #[] #[]))], hp := assoc [(1, .row (.ref 0) xs), (1000000000, .pool tythread m)], us := fun n => (assoc [(1, HE.row (.ref 0) xs), (1000000000, .pool tythread m)] n).isSome, nx := 2, bk := [] } { tmps := vs, defers := [] } w := h
  have hv := two_argsR h
  subst hv
  obtain ⟨hp, hmem, hkey⟩ : xs.length ≤ 64 ∧ (∀ a ∈ xs, mhas tythread m a = true) ∧ ∀ a ∈ xs, ∀ b ∈ xs, levO m a = levO m b → trnO m a = trnO m b → a = b := hp
  obtain ⟨_, hpool⟩ := h.heap 1000000000 (.pool tythread m) rfl
  have hthr : ∀ a ∈ xs, 0 ≤ a ∧ ∃ ty cs, w.heap[a.toNat]? = some (.cells cs ty (0, 0)) ∧ cs[1]? = some (.int .i64 (levO m a)) ∧ cs[4]? = some (.int .i64 (trnO m a)) := fun a ha => by
    obtain ⟨g1, ty, cs, g2, g3⟩ := hpool _ (mhas_mem (hmem a ha))
    obtain ⟨c1, c2, c3, c4, hcs⟩ := thr_cells g3
    refine ⟨g1, ty, cs, g2, ?_, ?_⟩
    · rw [← Array.getElem?_toList, hcs]; rfl
    · rw [← Array.getElem?_toList, hcs]; rfl
  rcases h.heap 1 (.row (.ref 0) xs) rfl with ⟨e, rfl⟩ | ⟨b, o, cp, cur, e, h1, h2, h3, h4, h5, h6⟩
  · have e : ρ 1 = .slice none 0 0 := e
    rw [e]
    refine (AnyF.slices_SortFunc_none { sortThr with } none 0 (.func (.func 49) #[] #[]) w).mono fun r w' hr => ?_
    obtain ⟨rfl, rfl⟩ := hr
    refine ⟨_, ρ, rfl, fun _ _ => rfl, ?_, ⟨_, rfl, trivial⟩⟩
    exact rowR_done h (BelowS.refl _ _) (fun _ _ _ => rfl) (fun c' _ _ e2 => .inl ⟨by rw [e2]; exact e, List.Perm.eq_nil (sortT_perm m [])⟩)
  · have h1 : ρ 1 = .slice (some ⟨b, o, none⟩) xs.length cp := h1
    have h2 : w.heap[b]? = some (.cells cur e (0, 0)) := h2
    have hblt : b < w.heap.size := (Array.getElem?_eq_some_iff.1 h2).1
    have h3 : xs.length ≤ cp := h3
    have h5 : o + cp * 1 ≤ cur.size := h5
    have hnold := (h.fresh 1 _ b rfl (by show blkOf (ρ 1) = some b; rw [h1]; rfl)).1
    by_cases hx0 : xs = []
    · subst hx0
      rw [h1]
      refine (AnyF.slices_SortFunc_none { sortThr with } (some ⟨b, o, none⟩) cp (.func (.func 49) #[] #[]) w).mono fun r w' hr => ?_
      obtain ⟨rfl, rfl⟩ := hr
      refine ⟨_, ρ, rfl, fun _ _ => rfl, ?_, ⟨_, rfl, trivial⟩⟩
      show Sx.Ok w0 ρ (hpOf [(1, .row (.ref 0) (sortT m [])), (1000000000, .pool tythread m)]) { tmps := #[], defers := [] } _
      refine rowR_done h (BelowS.refl _ _) (fun _ _ _ => rfl) (fun c' _ e1 e2 => ?_)
      have hn : sortT m [] = [] := List.Perm.eq_nil (sortT_perm m [])
      refine .inr ⟨b, o, cp, cur, e, by rw [e2, hn]; exact h1, by rw [e1]; exact h2, by rw [hn]; exact Nat.zero_le _, h4, h5, fun i y hy => ?_⟩
      rw [hn] at hy
      cases hy
    · obtain ⟨x0, hx0⟩ := List.exists_mem_of_ne_nil xs hx0
      letI : Inhabited { a : Int // a ∈ xs } := ⟨⟨x0, hx0⟩⟩
      have hlive : ∀ a ∈ xs, a.toNat ≠ b := fun a ha e => by
        refine h.apart 1 1000000000 _ _ b (by decide) rfl rfl ?_ ⟨_, mhas_mem (hmem a ha), ?_⟩
        · show blkOf (ρ 1) = some b
          rw [h1]; rfl
        · have h0 : (0 : Int) ≤ a := (hthr a ha).1
          show a = (b : Int)
          rw [← e]
          exact (Int.toNat_of_nonneg h0).symm
      generalize hd : xs.attach.toArray = d
      have hdx : d.toList.map Subtype.val = xs := by rw [← hd]; simp
      have hdl : d.size = xs.length := by simpa using congrArg List.length hdx
      have hget : ∀ j, j < d.size → xs[j]? = some d[j]!.1 := fun j hj => by
        have h7 : d.toList[j]? = some d[j]! := by simp [getElem!_pos d j hj, hj]
        have h8 := congrArg (fun l => l[j]?) hdx
        simp only [List.getElem?_map, h7, Option.map_some] at h8
        exact h8.symm
      have hH : Sort.Holds (encT xs) w b o d := fun j hj => by
        have hc := refs_cell h6 (hget j hj) (hthr _ d[j]!.2).1
        refine ⟨?_, by simp [World.frozen?, h2]⟩
        simp [World.cell?, h2, hc, encT]
      have hcell : ∀ (a : Int), a ∈ xs → ∀ (n : Nat) (dk : Array { a : Int // a ∈ xs }) (os : Array Obj) (j : Nat) (v : Value), (∀ ty cs, w.heap[a.toNat]? = some (.cells cs ty (0, 0)) → cs[j]? = some v) →
          (sortWorld (encT xs) w b o n dk os).cell? ⟨a.toNat, j, none⟩ = some v := fun a ha n dk os j v hv => by
        obtain ⟨_, ty, cs, g2, _⟩ := hthr a ha
        have hne := hlive a ha
        have hlt : a.toNat < w.heap.size := (Array.getElem?_eq_some_iff.1 g2).1
        have : (sortWorld (encT xs) w b o n dk os).heap[a.toNat]? = some (.cells cs ty (0, 0)) := by
          unfold sortWorld
          rw [heap_grow_old _ _ (by simpa using hlt)]
          unfold putRow mapBlock
          simp only [heap_ahead, Array.getElem?_modify]
          rw [if_neg (fun e => hne e.symm)]
          exact g2
        simp [World.cell?, this, hv _ _ g2]
      have hcmp : CmpLays1 Try.prog 49 #[] (encT xs) (cfT m xs) b o d.size w := fun n os dk _ x y => by
        have hl : ∀ z : { a : Int // a ∈ xs }, (sortWorld (encT xs) w b o n dk os).cell? ⟨z.1.toNat, 1, none⟩ = some (.int .i64 (levO m z.1)) := fun z =>
          hcell z.1 z.2 n dk os 1 _ fun ty cs g => by
            obtain ⟨_, ty', cs', g', q, _⟩ := hthr z.1 z.2
            rw [g] at g'; cases g'; exact q
        have ht : ∀ z : { a : Int // a ∈ xs }, (sortWorld (encT xs) w b o n dk os).cell? ⟨z.1.toNat, 4, none⟩ = some (.int .i64 (trnO m z.1)) := fun z =>
          hcell z.1 z.2 n dk os 4 _ fun ty cs g => by
            obtain ⟨_, ty', cs', g', _, q⟩ := hthr z.1 z.2
            rw [g] at g'; cases g'; exact q
        exact f49_calls x.1.toNat y.1.toNat _ _ _ _ _ (hl x) (ht x) (hl y) (ht y)
      have hT : ∀ x y, (ltOf (cfT m xs)) x y = false → (ltOf (cfT m xs)) y x = false → x = y := fun x y k1 k2 => by
        rw [ltT, keyLt_not] at k1 k2
        exact Subtype.ext (hkey _ x.2 _ y.2 (by omega) (by omega))
      rw [h1, ← hdl]
      refine (Any.slices_SortFunc_total sortThr (encT xs) (fun _ => rfl) (cfT m xs) (swoT m xs) 49 #[] b o cp d w (enters_of Try.func49 (by kernel_rfl) rfl) hcmp hH hblt (by omega) hT).mono fun r w' hr => ?_
      obtain ⟨rfl, n, os, rfl⟩ := hr
      generalize hys : (d.toList.mergeSort fun x y => !(ltOf (cfT m xs)) y x) = ys
      have hsx : sortT m xs = ys.map Subtype.val := by rw [← hys, sortT_val, hdx]
      have hpl : (sortT m xs).length = xs.length := (sortT_perm m xs).length_eq
      have hyl : ys.length = xs.length := by rw [← hpl, hsx]; simp
      have hother : ∀ b', b' < w.heap.size → b' ≠ b → (sortWorld (encT xs) w b o n ys.toArray os).heap[b']? = w.heap[b']? := fun b' hb' hne => by
        unfold sortWorld
        rw [heap_grow_old _ _ (by simpa using hb')]
        unfold putRow mapBlock
        simp only [heap_ahead, Array.getElem?_modify]
        rw [if_neg (fun e => hne e.symm)]
      have hat : (sortWorld (encT xs) w b o n ys.toArray os).heap[b]? = some (.cells (putCells (encT xs) o ys.toArray cur) e (0, 0)) := by
        unfold sortWorld
        rw [heap_grow_old _ _ (by simpa using hblt)]
        unfold putRow mapBlock
        simp only [heap_ahead, Array.getElem?_modify, if_true, h2, Option.map_some, onCells]
      refine ⟨_, ρ, rfl, fun _ _ => rfl, ?_, ⟨_, rfl, trivial⟩⟩
      show Sx.Ok w0 ρ (hpOf [(1, .row (.ref 0) (sortT m xs)), (1000000000, .pool tythread m)]) { tmps := #[], defers := [] } _
      refine rowR_done h ⟨rfl, rfl, rfl, by unfold sortWorld; simp, fun k hk => hother k (h.oldlt hk) (fun e => hnold (e ▸ hk))⟩ (fun b' hb' hne => hother b' hb' (fun e => hne (by rw [h1, e]; rfl))) ?_
      intro c' _ e1 e2
      refine .inr ⟨b, o, cp, _, e, by rw [e2, h1, hpl], by rw [e1]; exact hat, by rw [hpl]; exact h3, h4, ?_, ?_⟩
      · show o + cp * 1 ≤ (putCells (encT xs) o ys.toArray cur).size
        unfold putCells
        rw [Array.size_mapIdx]; exact h5
      · intro i y hy
        have hi : i < xs.length := by rw [← hpl]; exact (List.getElem?_eq_some_iff.1 hy).1
        have hym : y ∈ xs := (sortT_perm m xs).mem_iff.1 (List.mem_iff_getElem?.2 ⟨i, hy⟩)
        refine .inr ⟨(hthr y hym).1, ?_⟩
        have hyv : ys[i]? = some ⟨y, hym⟩ := by
          rw [hsx, List.getElem?_map] at hy
          obtain ⟨q, hq, he⟩ := Option.map_eq_some_iff.1 hy
          rw [hq]
          congr 1
          exact Subtype.ext he
        apply List.ext_getElem?
        intro k
        rw [List.getElem?_take, List.getElem?_drop]
        rcases k with _ | k
        · rw [if_pos (by decide), Array.getElem?_toList]
          show (putCells (encT xs) o ys.toArray cur)[o + i * 1 + 0]? = _
          unfold putCells
          rw [Array.getElem?_mapIdx, Array.getElem?_eq_getElem (by omega)]
          simp only [Option.map_some]
          rw [if_pos (by simp; omega)]
          have e1 : o + i * 1 + 0 - o = i := by omega
          rw [e1]
          have e2 : ys.toArray[i]! = ⟨y, hym⟩ := by
            rw [getElem!_pos ys.toArray i (by simp; omega)]
            have := (List.getElem?_eq_some_iff.1 hyv).2
            simpa using this
          rw [e2]; rfl
        · rw [if_neg (by show ¬ (k + 1 < 1); omega)]; rfl

end Go.Proofs.Ytpnmfoojmodnlaa.Cores
