/-
 Walked by hand: part X1.
-/
import Derived.Test.YtlnlichdidobpaaGreatDoorProg
import Derived.Shelf.Spec.SlicesInsertGrow
import Derived.Shelf.Slices.Delete
import Derived.Shelf.Slices.Turned
import Derived.Shelf.Sort.Plain
import Derived.Shelf.Slices.In.SortNone
import Derived.Shelf.SlSortCmp.NoneTotal
import Derived.Maps.OwnSet
import Derived.WalkKit
import Derived.Maps.AppendAt
import Derived.Laws.IdiomCopy
import Derived.Test.YtlnlichdidobpaaGreatDoorTurnsX0
import Derived.StillTailTactics
import Derived.Lib.Hide
import Derived.Laws.AppendOwnNone
import Derived.Deep.LoopGhost
import Derived.Carry
import Derived.Lib.Strings
import Derived.Lib.Slices
import Derived.Lib.Small
import Derived.Lib.Walk
import Derived.Lib.BitFns
import Derived.RangeFuncBox
import Derived.Test.YtlnlichdidobpaaGreatDoorChecked
namespace Go.Proofs.YtlnlichdidobpaaGreatDoor.Turns
set_option maxRecDepth 100000
set_option maxHeartbeats 4000000
set_option linter.unusedSimpArgs false
set_option linter.unusedVariables false
open Go Go.Proofs Go.Shelf
def mi : Go.Shelf.Ren := ⟨fun | 21 => 52 | 27 => 75 | 28 => 76 | 35 => 97 | 39 => 127 | n => n, fun | 22 => 28 | 3 => 3 | 4 => 4 | 0 => 0 | n => n, fun | n => n⟩
theorem va : Go.Proofs.Lays2.n21 Tryz.prog mi := {
 mixed := by kernel_rfl
 f21 := Tryz.func52.trans (congrArg some (by kernel_rfl))
 f27 := Tryz.func75.trans (congrArg some (by kernel_rfl))
 f28 := Tryz.func76.trans (congrArg some (by kernel_rfl))
 f35 := Tryz.func97.trans (congrArg some (by kernel_rfl))
 f39 := Tryz.func127.trans (congrArg some (by kernel_rfl))
 t0 := Tryz.underlying0
 a0 := Tryz.isAgg0
 z0 := Tryz.sizeOf0
 v0 := Tryz.zeroValue0
 t3 := Tryz.underlying3
 a3 := Tryz.isAgg3
 z3 := Tryz.sizeOf3
 v3 := Tryz.zeroValue3
 t4 := Tryz.underlying4
 a4 := Tryz.isAgg4
 z4 := Tryz.sizeOf4
 v4 := Tryz.zeroValue4
 t22 := Tryz.underlying28
 a22 := Tryz.isAgg28
 z22 := Tryz.sizeOf28
 v22 := Tryz.zeroValue28
 i3 := by kernel_rfl }
def BS : Go.Shelf.Ren := ⟨fun | 23 => 54 | n => n, fun | 22 => 28 | 3 => 3 | 4 => 4 | 0 => 0 | n => n, fun | n => n⟩
theorem Ry : Go.Proofs.Lays2.n23 Tryz.prog BS := {
 mixed := by kernel_rfl
 f23 := Tryz.func54.trans (congrArg some (by kernel_rfl))
 t0 := Tryz.underlying0
 a0 := Tryz.isAgg0
 z0 := Tryz.sizeOf0
 v0 := Tryz.zeroValue0
 t3 := Tryz.underlying3
 a3 := Tryz.isAgg3
 z3 := Tryz.sizeOf3
 v3 := Tryz.zeroValue3
 t4 := Tryz.underlying4
 a4 := Tryz.isAgg4
 z4 := Tryz.sizeOf4
 v4 := Tryz.zeroValue4
 t22 := Tryz.underlying28
 a22 := Tryz.isAgg28
 z22 := Tryz.sizeOf28
 v22 := Tryz.zeroValue28
 i3 := by kernel_rfl }
def CL : Go.Shelf.Ren := ⟨fun | 108 => 53 | n => n, fun | 28 => 28 | 3 => 3 | 0 => 0 | 4 => 4 | n => n, fun | n => n⟩
theorem RF : Go.Proofs.Lays.n108 Tryz.prog CL := {
 mixed := by kernel_rfl
 f108 := Tryz.func53.trans (congrArg some (by kernel_rfl))
 t0 := Tryz.underlying0
 a0 := Tryz.isAgg0
 z0 := Tryz.sizeOf0
 v0 := Tryz.zeroValue0
 t3 := Tryz.underlying3
 a3 := Tryz.isAgg3
 z3 := Tryz.sizeOf3
 v3 := Tryz.zeroValue3
 t4 := Tryz.underlying4
 a4 := Tryz.isAgg4
 z4 := Tryz.sizeOf4
 v4 := Tryz.zeroValue4
 t28 := Tryz.underlying28
 a28 := Tryz.isAgg28
 z28 := Tryz.sizeOf28
 v28 := Tryz.zeroValue28 }
def FO : Go.Shelf.Ren := ⟨fun | 189 => 13 | 125 => 20 | 257 => 22 | 128 => 24 | 129 => 42 | 294 => 43 | 295 => 44 | 296 => 45 | 297 => 46 | 298 => 47 | 299 => 48 | 216 => 49 | 300 => 50 | 301 => 51 | 328 => 72 | 329 => 68 | 330 => 69 | 331 => 73 | 332 => 74 | 215 => 21 | 343 => 96 | n => n, fun | 28 => 28 | 3 => 3 | 46 => 79 | 0 => 0 | 51 => 53 | 53 => 97 | 4 => 4 | 183 => 119 | 182 => 118 | 131 => 82 | 5 => 5 | 9 => 9 | 218 => 155 | 222 => 137 | 228 => 185 | 229 => 186 | n => n, fun | n => n⟩
theorem Pt : Go.Proofs.Lays.n189 Tryz.prog FO := {
 mixed := by kernel_rfl
 f125 := Tryz.func20.trans (congrArg some (by kernel_rfl))
 f128 := Tryz.func24.trans (congrArg some (by kernel_rfl))
 f129 := Tryz.func42.trans (congrArg some (by kernel_rfl))
 f189 := Tryz.func13.trans (congrArg some (by kernel_rfl))
 f215 := Tryz.func21.trans (congrArg some (by kernel_rfl))
 f216 := Tryz.func49.trans (congrArg some (by kernel_rfl))
 f257 := Tryz.func22.trans (congrArg some (by kernel_rfl))
 f294 := Tryz.func43.trans (congrArg some (by kernel_rfl))
 f295 := Tryz.func44.trans (congrArg some (by kernel_rfl))
 f296 := Tryz.func45.trans (congrArg some (by kernel_rfl))
 f297 := Tryz.func46.trans (congrArg some (by kernel_rfl))
 f298 := Tryz.func47.trans (congrArg some (by kernel_rfl))
 f299 := Tryz.func48.trans (congrArg some (by kernel_rfl))
 f300 := Tryz.func50.trans (congrArg some (by kernel_rfl))
 f301 := Tryz.func51.trans (congrArg some (by kernel_rfl))
 f328 := Tryz.func72.trans (congrArg some (by kernel_rfl))
 f329 := Tryz.func68.trans (congrArg some (by kernel_rfl))
 f330 := Tryz.func69.trans (congrArg some (by kernel_rfl))
 f331 := Tryz.func73.trans (congrArg some (by kernel_rfl))
 f332 := Tryz.func74.trans (congrArg some (by kernel_rfl))
 f343 := Tryz.func96.trans (congrArg some (by kernel_rfl))
 t0 := Tryz.underlying0
 a0 := Tryz.isAgg0
 z0 := Tryz.sizeOf0
 v0 := Tryz.zeroValue0
 t3 := Tryz.underlying3
 a3 := Tryz.isAgg3
 z3 := Tryz.sizeOf3
 v3 := Tryz.zeroValue3
 t4 := Tryz.underlying4
 a4 := Tryz.isAgg4
 z4 := Tryz.sizeOf4
 v4 := Tryz.zeroValue4
 t5 := Tryz.underlying5
 a5 := Tryz.isAgg5
 z5 := Tryz.sizeOf5
 v5 := Tryz.zeroValue5
 t9 := Tryz.underlying9
 a9 := Tryz.isAgg9
 z9 := Tryz.sizeOf9
 v9 := Tryz.zeroValue9
 t28 := Tryz.underlying28
 a28 := Tryz.isAgg28
 z28 := Tryz.sizeOf28
 v28 := Tryz.zeroValue28
 t46 := Tryz.underlying79
 a46 := Tryz.isAgg79
 z46 := Tryz.sizeOf79
 v46 := Tryz.zeroValue79
 t51 := Tryz.underlying53
 a51 := Tryz.isAgg53
 z51 := Tryz.sizeOf53
 v51 := Tryz.zeroValue53
 t53 := Tryz.underlying97
 a53 := Tryz.isAgg97
 z53 := Tryz.sizeOf97
 v53 := Tryz.zeroValue97
 t131 := Tryz.underlying82
 a131 := Tryz.isAgg82
 z131 := Tryz.sizeOf82
 v131 := Tryz.zeroValue82
 t182 := Tryz.underlying118
 a182 := Tryz.isAgg118
 z182 := Tryz.sizeOf118
 v182 := Tryz.zeroValue118
 t183 := Tryz.underlying119
 a183 := Tryz.isAgg119
 z183 := Tryz.sizeOf119
 v183 := Tryz.zeroValue119
 t218 := Tryz.underlying155
 a218 := Tryz.isAgg155
 z218 := Tryz.sizeOf155
 v218 := Tryz.zeroValue155
 t222 := Tryz.underlying137
 a222 := Tryz.isAgg137
 z222 := Tryz.sizeOf137
 v222 := Tryz.zeroValue137
 t228 := Tryz.underlying185
 a228 := Tryz.isAgg185
 z228 := Tryz.sizeOf185
 v228 := Tryz.zeroValue185
 t229 := Tryz.underlying186
 a229 := Tryz.isAgg186
 z229 := Tryz.sizeOf186
 v229 := Tryz.zeroValue186 }
def Ab : Go.Shelf.Ren := ⟨fun | 6 => 9 | 15 => 20 | 14 => 19 | 28 => 24 | 29 => 42 | 20 => 34 | 21 => 35 | 22 => 36 | 23 => 37 | 24 => 38 | 25 => 39 | 26 => 40 | 27 => 41 | 46 => 67 | 47 => 68 | 48 => 69 | 49 => 70 | 50 => 71 | 57 => 95 | n => n, fun | 22 => 42 | 24 => 43 | 25 => 49 | 3 => 3 | 39 => 79 | 0 => 0 | 53 => 53 | 55 => 97 | 4 => 4 | 46 => 119 | 45 => 118 | 50 => 82 | 5 => 5 | 9 => 9 | 66 => 155 | 70 => 137 | 76 => 185 | 77 => 186 | n => n, fun | n => n⟩
theorem tT : Go.Proofs.SlLaysF.n6 Tryz.prog Ab := {
 mixed := by kernel_rfl
 f6 := ⟨Tryz.f9.name, by decide, Tryz.func9.trans (congrArg some (by kernel_rfl))⟩
 f14 := ⟨Tryz.f19.name, by decide, Tryz.func19.trans (congrArg some (by kernel_rfl))⟩
 f15 := Tryz.func20.trans (congrArg some (by kernel_rfl))
 f20 := ⟨Tryz.f34.name, by decide, Tryz.func34.trans (congrArg some (by kernel_rfl))⟩
 f21 := ⟨Tryz.f35.name, by decide, Tryz.func35.trans (congrArg some (by kernel_rfl))⟩
 f22 := ⟨Tryz.f36.name, by decide, Tryz.func36.trans (congrArg some (by kernel_rfl))⟩
 f23 := ⟨Tryz.f37.name, by decide, Tryz.func37.trans (congrArg some (by kernel_rfl))⟩
 f24 := ⟨Tryz.f38.name, by decide, Tryz.func38.trans (congrArg some (by kernel_rfl))⟩
 f25 := ⟨Tryz.f39.name, by decide, Tryz.func39.trans (congrArg some (by kernel_rfl))⟩
 f26 := ⟨Tryz.f40.name, by decide, Tryz.func40.trans (congrArg some (by kernel_rfl))⟩
 f27 := ⟨Tryz.f41.name, by decide, Tryz.func41.trans (congrArg some (by kernel_rfl))⟩
 f28 := Tryz.func24.trans (congrArg some (by kernel_rfl))
 f29 := Tryz.func42.trans (congrArg some (by kernel_rfl))
 f46 := ⟨Tryz.f67.name, by decide, Tryz.func67.trans (congrArg some (by kernel_rfl))⟩
 f47 := Tryz.func68.trans (congrArg some (by kernel_rfl))
 f48 := Tryz.func69.trans (congrArg some (by kernel_rfl))
 f49 := ⟨Tryz.f70.name, by decide, Tryz.func70.trans (congrArg some (by kernel_rfl))⟩
 f50 := ⟨Tryz.f71.name, by decide, Tryz.func71.trans (congrArg some (by kernel_rfl))⟩
 f57 := ⟨Tryz.f95.name, by decide, Tryz.func95.trans (congrArg some (by kernel_rfl))⟩
 t0 := Tryz.underlying0
 a0 := Tryz.isAgg0
 z0 := Tryz.sizeOf0
 v0 := Tryz.zeroValue0
 t3 := Tryz.underlying3
 a3 := Tryz.isAgg3
 z3 := Tryz.sizeOf3
 v3 := Tryz.zeroValue3
 t4 := Tryz.underlying4
 a4 := Tryz.isAgg4
 z4 := Tryz.sizeOf4
 v4 := Tryz.zeroValue4
 t5 := Tryz.underlying5
 a5 := Tryz.isAgg5
 z5 := Tryz.sizeOf5
 v5 := Tryz.zeroValue5
 t9 := Tryz.underlying9
 a9 := Tryz.isAgg9
 z9 := Tryz.sizeOf9
 v9 := Tryz.zeroValue9
 t22 := Tryz.underlying42
 a22 := Tryz.isAgg42
 z22 := Tryz.sizeOf42
 v22 := Tryz.zeroValue42
 a24 := Tryz.isAgg43
 z24 := Tryz.sizeOf43
 t25 := Tryz.underlying49
 a25 := Tryz.isAgg49
 z25 := Tryz.sizeOf49
 v25 := Tryz.zeroValue49
 t39 := Tryz.underlying79
 a39 := Tryz.isAgg79
 z39 := Tryz.sizeOf79
 v39 := Tryz.zeroValue79
 t45 := Tryz.underlying118
 a45 := Tryz.isAgg118
 z45 := Tryz.sizeOf118
 v45 := Tryz.zeroValue118
 t46 := Tryz.underlying119
 a46 := Tryz.isAgg119
 z46 := Tryz.sizeOf119
 v46 := Tryz.zeroValue119
 t50 := Tryz.underlying82
 a50 := Tryz.isAgg82
 z50 := Tryz.sizeOf82
 v50 := Tryz.zeroValue82
 t53 := Tryz.underlying53
 a53 := Tryz.isAgg53
 z53 := Tryz.sizeOf53
 v53 := Tryz.zeroValue53
 t55 := Tryz.underlying97
 a55 := Tryz.isAgg97
 z55 := Tryz.sizeOf97
 v55 := Tryz.zeroValue97
 t66 := Tryz.underlying155
 a66 := Tryz.isAgg155
 z66 := Tryz.sizeOf155
 v66 := Tryz.zeroValue155
 t70 := Tryz.underlying137
 a70 := Tryz.isAgg137
 z70 := Tryz.sizeOf137
 v70 := Tryz.zeroValue137
 t76 := Tryz.underlying185
 a76 := Tryz.isAgg185
 z76 := Tryz.sizeOf185
 v76 := Tryz.zeroValue185
 t77 := Tryz.underlying186
 a77 := Tryz.isAgg186
 z77 := Tryz.sizeOf186
 v77 := Tryz.zeroValue186 }
end Go.Proofs.YtlnlichdidobpaaGreatDoor.Turns
namespace Go.Proofs.YtlnlichdidobpaaGreatDoor.Turns
set_option maxRecDepth 100000
set_option maxHeartbeats 4000000
set_option linter.unusedSimpArgs false
set_option linter.unusedVariables false
open Go Go.Proofs Go.RowKit Go.MapKept
abbrev QL := List (Int × Int)
abbrev EL := List (Int × Int × Nat)
def gz (x : Int × Int × Nat) : MapEntry := { key := .int .i64 x.1, val := .int .i64 x.2.1, born := x.2.2 }
def VS (E : EL) (clock : Nat) : Prop := (E.map fun x => x.1).Nodup ∧ (∀ x ∈ E, x.2.2 < clock) ∧ (E.map fun x => x.2.2).Nodup
def P4 (W : World) (m : Nat) (L : QL) : Prop := ∃ (E : EL) (clock : Nat), W.heap[m]? = some (.map (E.map gz).toArray clock) ∧ VS E clock ∧ ∀ p : Int × Int, p ∈ L ↔ ∃ b, (p.1, p.2, b) ∈ E
theorem u5 (i j : Int) : Instr.sameNow (.int .i64) (.int .i64 i) (.int .i64 j) = some (decide (i = j)) := by
 have : (i == j) = decide (i = j) := by by_cases h : i = j <;> simp [h]
 simp [Instr.sameNow, this]
theorem rC (id : Int) : ∀ (E : EL) (n : Nat), id ∉ E.map (fun x => x.1) → Instr.findNow (.int .i64) (.int .i64 id) (E.map gz) n = some none
 | [], _, _ => rfl
 | x :: E, n, h => by
  rw [List.map_cons, List.mem_cons, not_or] at h
  rw [List.map_cons, Instr.findNow, show (gz x).key = .int .i64 x.1 from rfl, u5, decide_eq_false h.1]
  exact rC id E (n + 1) h.2
theorem so {id lev : Int} {b : Nat} : ∀ (E1 E2 : EL) (n : Nat), id ∉ E1.map (fun x => x.1) → Instr.findNow (.int .i64) (.int .i64 id) ((E1 ++ (id, lev, b) :: E2).map gz) n = some (some (n + E1.length, .int .i64 lev))
 | [], E2, n, _ => by
  rw [List.nil_append, List.map_cons, Instr.findNow, show (gz (id, lev, b)).key = .int .i64 id from rfl, u5, decide_eq_true rfl]
  rfl
 | x :: E1, E2, n, h => by
  rw [List.map_cons, List.mem_cons, not_or] at h
  rw [List.cons_append, List.map_cons, Instr.findNow, show (gz x).key = .int .i64 x.1 from rfl, u5, decide_eq_false h.1]
  have := so E1 E2 (n + 1) h.2 (b := b) (lev := lev)
  simp only [] at this ⊢
  rw [this, List.length_cons]
  congr 3
  omega
theorem xY {id lev : Int} {b : Nat} {E : EL} (h : (id, lev, b) ∈ E) (hn : (E.map fun x => x.1).Nodup) : ∃ E1 E2, E = E1 ++ (id, lev, b) :: E2 ∧ id ∉ E1.map (fun x => x.1) ∧ id ∉ E2.map (fun x => x.1) := by
 obtain ⟨E1, E2, rfl⟩ := List.append_of_mem h
 rw [List.map_append, List.map_cons, List.nodup_append] at hn
 obtain ⟨h1, h2, h3⟩ := hn
 rw [List.nodup_cons] at h2
 exact ⟨E1, E2, rfl, fun hm => h3 _ hm _ (List.mem_cons_self ..) rfl, h2.1⟩
theorem zG (W : World) (e : Bool) (i : Int) : (Instr.checkKey e 10000 3 (.int .i64 i)).run Tryz.prog W = .ok () W :=
 Go.MapKept.run_checkKey Tryz.underlying3 (by simp [Go.MapKept.IsKey]) e 9999
theorem uK {W : World} {m : Nat} {L : QL} (h : P4 W m L) (t : TypeId) (ht : Tryz.prog.underlying t = some (.map 3 3)) (id : Int) :
  (∀ lev, (id, lev) ∈ L → ∀ c, (Instr.lookup t (.map (some m)) (.int .i64 id) c).run Tryz.prog W = .ok (if c then .tuple #[.int .i64 lev, .bool true] else .int .i64 lev) W) ∧
  ((∀ lev, (id, lev) ∉ L) → (Instr.lookup t (.map (some m)) (.int .i64 id) true).run Tryz.prog W = .ok (.tuple #[.int .i64 0, .bool false]) W) := by
 obtain ⟨E, clock, hb, ⟨hk, -, -⟩, hL⟩ := h
 have hz : (zeroValue 3).run Tryz.prog W = .ok (.int .i64 0) W := Tryz.zeroValue3 W
 refine ⟨fun lev hl c => ?_, fun hl => ?_⟩
 ·obtain ⟨b, hb2⟩ := (hL (id, lev)).1 hl
  obtain ⟨E1, E2, rfl, h1, -⟩ := xY hb2 hk
  have hf := so (lev := lev) (b := b) E1 E2 0 h1
  unfold Instr.lookup
  simp only [Sem.run_bind, run_underlying ht, Result.andThen_ok, Go.MapKept.run_getObj_map hb, zG, Go.MapKept.run_findKey Tryz.underlying3 hf, Sem.run_pure]
 ·have hn : id ∉ E.map (fun x => x.1) := fun hm => by
   obtain ⟨x, hx, rfl⟩ := List.mem_map.1 hm
   exact hl x.2.1 ((hL (x.1, x.2.1)).2 ⟨x.2.2, hx⟩)
  have hf := rC id E 0 hn
  unfold Instr.lookup
  simp only [Sem.run_bind, run_underlying ht, Result.andThen_ok, Go.MapKept.run_getObj_map hb, zG, Go.MapKept.run_findKey Tryz.underlying3 hf, hz, Sem.run_pure]
  rfl
theorem F6 {W : World} {m : Nat} {E : EL} {clock : Nat} (hb : W.heap[m]? = some (.map (E.map gz).toArray clock)) (t : TypeId) (ht : Tryz.prog.underlying t = some (.map 3 3)) {id : Int} (hn : id ∉ E.map (fun x => x.1)) :
  (Instr.mapEntry t (.map (some m)) (.int .i64 id)).run Tryz.prog W = .ok (.tuple #[.int .i64 0, goInt clock]) { W with heap := W.heap.setIfInBounds m (.map ((E ++ [(id, 0, clock)]).map gz).toArray (clock + 1)) } := by
 have hz : (zeroValue 3).run Tryz.prog W = .ok (.int .i64 0) W := Tryz.zeroValue3 W
 have hf := rC id E 0 hn
 unfold Instr.mapEntry
 simp only [Sem.run_bind, run_underlying ht, Result.andThen_ok, Go.MapKept.run_getObj_map hb, zG, Go.MapKept.run_findKey Tryz.underlying3 hf, hz, Go.MapKept.run_setObj_map _ hb, Sem.run_pure]
 simp [gz]
theorem Fb : ∀ (E : EL) (x : Int × Int × Nat), (∀ y ∈ E, y.2.2 < x.2.2) → ((E ++ [x]).map gz).toArray.findIdx? (fun e => (e.born : Int) == ((x.2.2 : Nat) : Int)) = some E.length := by
 intro E x h
 rw [Array.findIdx?_eq_some_iff_getElem]
 refine ⟨by simp, by simp [gz], fun j hj => ?_⟩
 have hy := h E[j] (List.getElem_mem hj)
 have e : ((E ++ [x]).map gz).toArray[j]'(by simp; omega) = gz E[j] := by
  rw [List.getElem_toArray]
  simp only [List.map_append]
  rw [List.getElem_append_left (by simpa using hj), List.getElem_map]
 rw [e]
 show ¬ (((E[j].2.2 : Nat) : Int) == ((x.2.2 : Nat) : Int)) = true
 simp
 omega
theorem zN {α : Type} (x : α) (f : α → α) : ∀ l : List α, (l ++ [x]).modify l.length f = l ++ [f x]
 | [] => rfl
 | a :: l => congrArg (List.cons a) (zN x f l)
theorem BN {W : World} {m : Nat} {E : EL} {clock : Nat} {id lev : Int} (hb : W.heap[m]? = some (.map ((E ++ [(id, 0, clock)]).map gz).toArray (clock + 1))) (hc : ∀ x ∈ E, x.2.2 < clock) (t : TypeId) :
  (Instr.entryStore t (.map (some m)) (goInt clock) (.int .i64 lev)).run Tryz.prog W = .ok () { W with heap := W.heap.setIfInBounds m (.map ((E ++ [(id, lev, clock)]).map gz).toArray (clock + 1)) } := by
 have hf := Fb E (id, 0, clock) hc
 unfold Instr.entryStore
 simp only [Sem.run_bind, Result.andThen_ok, Go.MapKept.run_getObj_map hb, goInt, asInt, asIntOf, Sem.run_pure]
 rw [hf]
 simp only [Go.MapKept.run_setObj_map _ hb]
 congr 4
 apply Array.ext'
 rw [Array.toList_modify, List.map_append, List.map_append]
 show (E.map gz ++ [gz (id, 0, clock)]).modify E.length _ = _
 rw [show E.length = (E.map gz).length by simp, zN]
 rfl
theorem Lx {W : World} {m : Nat} {E1 E2 : EL} {clock : Nat} {id lev : Int} {b : Nat} (hb : W.heap[m]? = some (.map ((E1 ++ (id, lev, b) :: E2).map gz).toArray clock)) (h1 : id ∉ E1.map (fun x => x.1)) (t ty : TypeId) (ht : Tryz.prog.underlying t = some (.map 3 3)) :
  (Builtin.delete_ #[t, 3] ty #[.map (some m), .int .i64 id]).run Tryz.prog W = .ok (.tuple #[]) { W with heap := W.heap.setIfInBounds m (.map ((E1 ++ E2).map gz).toArray clock) } := by
 have hf := Go.MapKept.run_findKey (P := Tryz.prog) (w := W) Tryz.underlying3 (so (lev := lev) (b := b) E1 E2 0 h1)
 rw [Nat.zero_add, List.map_append, List.map_cons] at hf
 unfold Builtin.delete_
 simp [Sem.run_bind, run_underlying ht, Result.andThen_ok, Go.MapKept.run_getObj_map hb, zG, hf, Go.MapKept.run_setObj_map _ hb, Sem.run_pure]
 rw [show E1.length = (E1.map gz).length by simp, List.eraseIdx_append_of_length_le (Nat.le_refl _), Nat.sub_self]
 rfl
end Go.Proofs.YtlnlichdidobpaaGreatDoor.Turns
namespace Go.Proofs.YtlnlichdidobpaaGreatDoor.Turns
set_option maxRecDepth 100000
set_option maxHeartbeats 4000000
set_option linter.unusedSimpArgs false
set_option linter.unusedVariables false
open Go Go.Proofs Go.Shelf Go.RowKit
def bq (l : List Int) : List Value := l.map (.int .i64)
theorem oY {l : List Int} {j : Nat} : (bq l)[j]? = (l[j]?).map (.int .i64) := by unfold bq; rw [List.getElem?_map]
theorem dC {l : List Int} : (bq l).length = l.length := by unfold bq; simp
theorem iw {l : List Int} : ∀ v ∈ bq l, v.oneCell' = true := fun v hv => by
 obtain ⟨x, _, rfl⟩ := List.mem_map.1 hv
 rfl
def xb (cur : Array Value) (o : Nat) : List Value → Array Value
 | [] => cur
 | v :: r => xb (cur.setIfInBounds o v) (o + 1) r
theorem fT : ∀ (vs : List Value) (cur : Array Value) (o : Nat), (xb cur o vs).size = cur.size
 | [], _, _ => rfl
 | v :: r, cur, o => by
  unfold xb
  rw [fT r]; simp
theorem k8 : ∀ (vs : List Value) (cur : Array Value) (o j : Nat), o + vs.length ≤ cur.size → (xb cur o vs)[j]? = if o ≤ j ∧ j < o + vs.length then vs[j - o]? else cur[j]?
 | [], cur, o, j, _ => by
  unfold xb
  rw [if_neg (by rw [List.length_nil]; omega)]
 | v :: r, cur, o, j, h => by
  unfold xb
  rw [List.length_cons] at h
  rw [k8 r _ _ _ (by simp; omega), Array.getElem?_setIfInBounds]
  by_cases h1 : o = j
  ·subst h1
   rw [if_neg (by omega), if_pos rfl, if_pos (by omega), if_pos (by simp)]
   try simp
  ·by_cases h2 : o + 1 ≤ j ∧ j < o + 1 + r.length
   ·rw [if_pos h2, if_pos (by simp; omega)]
    rw [show j - o = (j - (o + 1)) + 1 by omega, List.getElem?_cons_succ]
   ·rw [if_neg h2, if_neg h1, if_neg (by simp; omega)]
theorem jn (b : Nat) (e : TypeId) : ∀ (vs : List Value) (o : Nat) (cur : Array Value) (w : World), w.heap[b]? = some (.cells cur e (0, 0)) → (w.setCells b o vs).heap[b]? = some (.cells (xb cur o vs) e (0, 0))
 | [], o, cur, w, h => h
 | v :: r, o, cur, w, h => by
  show ((w.setCell ⟨b, o, none⟩ v).setCells b (o + 1) r).heap[b]? = _
  refine jn b e r (o + 1) (cur.setIfInBounds o v) _ ?_
  unfold World.setCell
  simp [Array.getElem?_modify, h]
theorem jj (b : Nat) : ∀ (vs : List Value) (o : Nat) (w : World), (w.setCells b o vs).os = w.os ∧ (w.setCells b o vs).tape = w.tape ∧ (w.setCells b o vs).output = w.output ∧ (w.setCells b o vs).heap.size = w.heap.size ∧ ∀ k, k ≠ b → (w.setCells b o vs).heap[k]? = w.heap[k]?
 | [], _, _ => ⟨rfl, rfl, rfl, rfl, fun _ _ => rfl⟩
 | v :: r, o, w => by
  obtain ⟨a1, a2, a3, a4, a5⟩ := jj b r (o + 1) (w.setCell ⟨b, o, none⟩ v)
  refine ⟨a1, a2, a3, a4.trans (by simp [World.setCell]), fun k hk => (a5 k hk).trans ?_⟩
  unfold World.setCell
  simp only [Array.getElem?_modify]
  rw [if_neg (fun e => hk e.symm)]
theorem aQ {w : World} {b : Nat} {cur : Array Value} {e : TypeId} (h : w.heap[b]? = some (.cells cur e (0, 0))) {j : Nat} {v : Value} (hj : cur[j]? = some v) : w.cell? ⟨b, j, none⟩ = some v := by
 simp [World.cell?, h, hj]
theorem iM (w : World) (o : Obj) : (w.alloc o).heap[w.heap.size]? = some o := by
 simp only [World.alloc]
 rw [Array.getElem?_push, if_pos rfl]
theorem qN {B g cap : Nat} {cur : Array Value} {l : List Int} {w : World} (hg : w.heap[g]? = some (.cells cur 3 (0, 0))) (hB : B ≤ g) (hl : l.length ≤ cap) (hm : cap ≤ maxLen) (hs : cur.size = cap)
  (h : ∀ (j : Nat) (y : Int), l[j]? = some y → cur[j]? = some (.int .i64 y)) : w.ownsRow B 3 1 (.slice (some ⟨g, 0, none⟩) l.length cap) l.length (bq l) := by
 refine ⟨by rw [dC, Nat.mul_one], .inr ⟨g, cap, cur, rfl, hB, hg, hl, hm, by omega, ?_⟩⟩
 apply List.ext_getElem?
 intro j
 rw [oY, List.getElem?_take, Nat.mul_one]
 by_cases hj : j < l.length
 ·rw [if_pos hj, List.getElem?_eq_getElem hj, Option.map_some, Array.getElem?_toList]
  exact h j _ (List.getElem?_eq_getElem hj)
 ·rw [if_neg hj, List.getElem?_eq_none (by omega)]
  rfl
theorem jt {B g cap n : Nat} {w : World} {xs : List Int} (h : w.ownsRow B 3 1 (.slice (some ⟨g, 0, none⟩) n cap) n (bq xs)) : ∃ cur, n = xs.length ∧ B ≤ g ∧ w.heap[g]? = some (.cells cur 3 (0, 0)) ∧ xs.length ≤ cap ∧ cap ≤ maxLen ∧ cur.size = cap ∧ ∀ (j : Nat) (y : Int), xs[j]? = some y → cur[j]? = some (.int .i64 y) := by
 have hl := h.1
 rw [dC, Nat.mul_one] at hl
 rcases h.2 with ⟨h', _⟩ | ⟨g', cap', cur, h', hb, hg, hnc, hcm, hcs, htake⟩
 ·cases h'
 ·injection h' with h1 _ h2
  injection h1 with h1
  injection h1 with h1
  subst h1 h2
  refine ⟨cur, hl.symm, hb, hg, by omega, hcm, by omega, fun j y hy => ?_⟩
  have h1 : (bq xs)[j]? = some (.int .i64 y) := by rw [oY, hy]; rfl
  have hj : j < xs.length := (List.getElem?_eq_some_iff.1 hy).1
  rw [← htake, List.getElem?_take, if_pos (by omega), Array.getElem?_toList] at h1
  exact h1
theorem grown_of {w w' : World} {g : Nat} (h1 : w'.os = w.os) (h2 : w'.tape = w.tape) (h3 : w'.output = w.output) (h4 : w.heap.size ≤ w'.heap.size) (h5 : ∀ k, k < w.heap.size → k ≠ g → w'.heap[k]? = w.heap[k]?) : w.grownBy w' (some g) :=
 ⟨h1, h2, h3, h4, fun k hk hne => h5 k hk (fun e => hne (by rw [e]))⟩
theorem VA {B : Nat} {v : Value} {xs : List Int} {id : Int} {w : World} (hown : w.ownsRow B 3 1 v xs.length (bq xs)) {vb : Nat} (hvb : w.heap[vb]? = some (.cells #[.int .i64 id] 3 (0, 0))) (hne : v.ownBlock ≠ some vb) (hn : xs.length ≤ 1000000) (hB : B ≤ w.heap.size) :
  Calls Tryz.prog 52 #[v, .int .i64 0, .slice (some ⟨vb, 0, none⟩) 1 1] w fun e w' => ∃ v', e = .returned v' ∧ w'.ownsRow B 3 1 v' (xs.length + 1) (bq (id :: xs)) ∧ w.grownBy w' v.ownBlock ∧ (v'.ownBlock = v.ownBlock ∨ v'.ownBlock = some w.heap.size) := by
 have hvs : ∀ (j : Nat) u, (bq [id])[j]? = some u → w.cell? ⟨vb, 0 + j, none⟩ = some u := fun j u hj => by
  match j, hj with
  | 0, hj => exact aQ hvb (by simpa [bq] using hj)
 have hmax : (maxLen : Nat) = 9223372036854775807 := rfl
 have hgrowN : ∀ (row : Option Nat) (a : Option Addr) (c : Nat), c < 1 → xs = [] → (∃ v', Go.Ending.returned (Value.slice (some ⟨w.heap.size, 0, none⟩) (0 + 1) (grownCap w (0 + 1) c 3)) = .returned v' ∧
   (w.drew.alloc (.cells (([] ++ bq [id]).toArray ++ Builtin.zeroCells (Value.int .i64 0).cells (grownCap w (0 + 1) c 3 - (0 + 1))) 3)).ownsRow B 3 1 v' (xs.length + 1) (bq (id :: xs)) ∧
   w.grownBy (w.drew.alloc (.cells (([] ++ bq [id]).toArray ++ Builtin.zeroCells (Value.int .i64 0).cells (grownCap w (0 + 1) c 3 - (0 + 1))) 3)) row ∧ (v'.ownBlock = row ∨ v'.ownBlock = some w.heap.size)) := by
  intro row a c hc hxs
  subst hxs
  have hge := grownCap_ge w (0 + 1) c 3
  have hcm := grownCap_le_maxLen w (0 + 1) c 3 (by decide)
  generalize grownCap w (0 + 1) c 3 = G at *
  refine ⟨_, rfl, qN (l := [id]) (iM w.drew _) hB hge hcm ?_ fun j y hj => ?_, ⟨rfl, rfl, rfl, by simp [World.alloc], fun k hk _ => heap_alloc_old w.drew _ hk⟩, .inr rfl⟩
  ·simp only [List.nil_append, Array.size_append, List.size_toArray, dC, size_zeroCells]
   simp [Value.cells]
   omega
  ·match j, hj with
   | 0, hj =>
    simp only [List.nil_append]
    rw [Array.getElem?_append_left (by simp [bq])]
    simpa [bq] using hj
 rcases hown.2 with ⟨rfl, h0⟩ | ⟨g, cap, cur0, rfl, -, -, -, -, -, -⟩
 ·have hxs : xs = [] := List.eq_nil_of_length_eq_zero h0
  have key := hgrowN none none 0 (by decide) hxs
  subst hxs
  refine (Any2.slices_Insert_int_end_grow va none 0 0 vb 0 1 1 [] (bq [id]) w (by decide) (by decide) (by decide) (by decide) rfl rfl (fun _ => rfl) (fun _ e => by cases e) hvs iw).mono fun r w' hr => ?_
  obtain ⟨rfl, rfl⟩ := hr
  exact key
 ·obtain ⟨cur, -, hbg, hg, hnc, hcm, hcs, hget⟩ := jt hown
  have hvg : vb ≠ g := fun e => hne (by rw [e]; rfl)
  have hcells : ∀ (j : Nat) u, (bq xs)[j]? = some u → w.cell? ⟨g, 0 + j, none⟩ = some u := fun j u hj => by
   rw [oY, Option.map_eq_some_iff] at hj
   obtain ⟨y, hy, rfl⟩ := hj
   rw [Nat.zero_add]
   exact aQ hg (hget j y hy)
  have hsome : ∀ j, j < cap → (w.cell? ⟨g, 0 + j, none⟩).isSome = true := fun j hj => by
   rw [Nat.zero_add, aQ hg (Array.getElem?_eq_getElem (show j < cur.size by omega))]
   rfl
  have hfz : ∀ j, w.frozen? ⟨g, j, none⟩ = false := fun j => by simp [World.frozen?, hg]
  have hfv : ∀ j, w.frozen? ⟨vb, j, none⟩ = false := fun j => by simp [World.frozen?, hvb]
  have hsa : w.shape? vb = some (3, 1) := by simp [World.shape?, hvb]
  have hsb : w.shape? g = some (3, cap) := by simp [World.shape?, hg, hcs]
  by_cases h0 : xs.length = 0
  ·have hxs : xs = [] := List.eq_nil_of_length_eq_zero h0
   by_cases hroom : 1 ≤ cap
   ·subst hxs
    refine (Any2.slices_Insert_int_end_room va g 0 0 cap vb 0 1 1 (bq [id]) w (by decide) hroom (by omega) rfl (fun j hj => by have := hsome j (by omega); simpa using this) (fun j _ => by have := hfz j; simpa using this) hvs iw).mono fun r w' hr => ?_
    obtain ⟨rfl, rfl⟩ := hr
    obtain ⟨a1, a2, a3, a4, a5⟩ := jj g (bq [id]) (0 + 0) w
    refine ⟨_, rfl, qN (l := [id]) (jn g 3 _ _ _ _ hg) hbg hroom hcm (by rw [fT, hcs]) fun j y hj => ?_, grown_of a1 a2 a3 (by omega) (fun k _ hk => a5 k hk), .inl rfl⟩
    match j, hj with
    | 0, hj =>
     rw [k8 _ _ _ _ (by rw [dC, hcs]; simpa using hroom), if_pos (by simp [bq])]
     simpa [bq] using hj
   ·have key := hgrowN (some g) (some ⟨g, 0, none⟩) cap (by omega) hxs
    subst hxs
    refine (Any2.slices_Insert_int_end_grow va (some ⟨g, 0, none⟩) 0 cap vb 0 1 1 [] (bq [id]) w (by decide) (by omega) (by omega) (by decide) rfl rfl (fun _ => rfl) (fun _ _ j u hj => by cases hj) hvs iw).mono fun r w' hr => ?_
    obtain ⟨rfl, rfl⟩ := hr
    exact key
  ·by_cases hroom : xs.length + 1 ≤ cap
   ·refine (Any2.slices_Insert_int_shift va g 0 xs.length cap 0 vb 0 1 1 (bq xs) (bq [id]) w (by omega) (by decide) hroom (by omega) hvg dC rfl hcells (fun j hj => hsome j (by omega)) (fun j _ => hfz _) hvs iw iw 3 3 1 cap hsa hsb (by omega) (hfv _) (hfv _)).mono fun r w' hr => ?_
    obtain ⟨rfl, rfl⟩ := hr
    have hg1 := jn g 3 ((bq xs).drop 0) (0 + (0 + 1)) cur w.drew hg
    have hg2 := jn g 3 (bq [id]) (0 + 0) _ _ hg1
    obtain ⟨a1, a2, a3, a4, a5⟩ := jj g ((bq xs).drop 0) (0 + (0 + 1)) w.drew
    obtain ⟨b1, b2, b3, b4, b5⟩ := jj g (bq [id]) (0 + 0) (w.drew.setCells g (0 + (0 + 1)) ((bq xs).drop 0))
    refine ⟨_, rfl, qN (l := id :: xs) hg2 hbg (by simpa using hroom) hcm (by rw [fT, fT, hcs]) fun j y hj => ?_, grown_of (b1.trans a1) (b2.trans a2) (b3.trans a3) (by rw [b4, a4]; exact Nat.le_refl _) (fun k _ hk => (b5 k hk).trans (a5 k hk)), .inl rfl⟩
    rw [k8 _ _ _ _ (by rw [dC, fT, hcs]; simp; omega)]
    match j, hj with
    | 0, hj =>
     rw [if_pos (by simp [bq])]
     simpa [bq] using hj
    | j + 1, hj =>
     have hjl : j < xs.length := (List.getElem?_eq_some_iff.1 (show xs[j]? = some y from hj)).1
     rw [if_neg (by simp [bq]), k8 _ _ _ _ (by rw [List.drop_zero, dC, hcs]; omega), if_pos (by rw [List.drop_zero, dC]; omega), List.drop_zero, show j + 1 - (0 + (0 + 1)) = j by omega, oY, show xs[j]? = some y from hj]
     rfl
   ·refine (Any2.slices_Insert_int_grow va g 0 xs.length cap 0 vb 0 1 1 (bq xs) (bq [id]) w (by omega) (by decide) hnc (by omega) (by omega) dC rfl hcells hvs iw iw).mono fun r w' hr => ?_
    obtain ⟨rfl, rfl⟩ := hr
    have hge := grownCap_ge w (xs.length + 1) cap (mi.t 3)
    have hcm2 := grownCap_le_maxLen w (xs.length + 1) cap (mi.t 3) (by omega)
    generalize grownCap w (xs.length + 1) cap (mi.t 3) = G at *
    generalize hz : (((bq xs).take 0).toArray ++ Builtin.zeroCells (Value.int .i64 0).cells (xs.length + 1 - 0) ++ Builtin.zeroCells (Value.int .i64 0).cells (G - (xs.length + 1))) = Z
    have hZ : Z.size = G := by
     rw [← hz]
     simp only [List.take_zero, Array.size_append, List.size_toArray, List.length_nil, size_zeroCells]
     simp [Value.cells]
     omega
    have hn0 : (w.alloc (.cells Z 3)).drew.heap[w.heap.size]? = some (.cells Z 3 (0, 0)) := iM w _
    have hg1 := jn w.heap.size 3 (bq [id]) 0 Z _ hn0
    have hg2 := jn w.heap.size 3 ((bq xs).drop 0) (0 + 1) _ (((w.alloc (.cells Z 3)).drew.setCells w.heap.size 0 (bq [id])).drew) hg1
    obtain ⟨a1, a2, a3, a4, a5⟩ := jj w.heap.size (bq [id]) 0 (w.alloc (.cells Z 3)).drew
    obtain ⟨b1, b2, b3, b4, b5⟩ := jj w.heap.size ((bq xs).drop 0) (0 + 1) (((w.alloc (.cells Z 3)).drew.setCells w.heap.size 0 (bq [id])).drew)
    refine ⟨_, rfl, qN (l := id :: xs) hg2 hB hge hcm2 (by rw [fT, fT, hZ]) fun j y hj => ?_, ⟨b1.trans a1, b2.trans a2, b3.trans a3, ?_, fun k hk _ => ?_⟩, .inr rfl⟩
    ·rw [k8 _ _ _ _ (by rw [List.drop_zero, dC, fT, hZ]; omega)]
     match j, hj with
     | 0, hj =>
      rw [if_neg (by omega), k8 _ _ _ _ (by rw [dC, hZ]; simp; omega), if_pos (by simp [bq])]
      simpa [bq] using hj
     | j + 1, hj =>
      have hjl : j < xs.length := (List.getElem?_eq_some_iff.1 (show xs[j]? = some y from hj)).1
      rw [if_pos (by rw [List.drop_zero, dC]; omega), List.drop_zero, show j + 1 - (0 + 1) = j by omega, oY, show xs[j]? = some y from hj]
      rfl
    ·exact Nat.le_trans (Nat.le_trans (show w.heap.size ≤ (w.alloc (.cells Z 3)).heap.size by simp) (Nat.le_of_eq a4.symm)) (Nat.le_of_eq b4.symm)
    ·have hk' : k ≠ w.heap.size := by omega
     exact (b5 k hk').trans ((a5 k hk').trans (heap_alloc_old w _ hk))
end Go.Proofs.YtlnlichdidobpaaGreatDoor.Turns
namespace Go.Proofs.YtlnlichdidobpaaGreatDoor.Turns
set_option maxRecDepth 100000
set_option maxHeartbeats 4000000
set_option linter.unusedSimpArgs false
set_option linter.unusedVariables false
open Go Go.Proofs Go.Shelf Go.RowKit
theorem Vv {B g cap : Nat} {x : Int} {xs : List Int} {w : World} (hown : w.ownsRow B 3 1 (.slice (some ⟨g, 0, none⟩) (xs.length + 1) cap) (xs.length + 1) (bq (x :: xs))) :
  Calls Tryz.prog 54 #[.slice (some ⟨g, 0, none⟩) (xs.length + 1) cap, .int .i64 0, .int .i64 1] w fun e w' => e = .returned (.slice (some ⟨g, 0, none⟩) xs.length cap) ∧ w'.ownsRow B 3 1 (.slice (some ⟨g, 0, none⟩) xs.length cap) xs.length (bq xs) ∧ w.grownBy w' (some g) := by
 obtain ⟨cur, -, hbg, hg, hnc, hcm, hcs, hget⟩ := jt hown
 have hnc : xs.length + 1 ≤ cap := hnc
 have hmax : (maxLen : Nat) = 9223372036854775807 := rfl
 have hH : Sort.Holds (Value.int .i64) w g 0 (x :: xs).toArray := fun j hj => by
  have hj' : j < (x :: xs).length := by simpa using hj
  refine ⟨?_, by simp [World.frozen?, hg]⟩
  rw [Nat.zero_add, aQ hg (hget j _ (List.getElem?_eq_getElem hj')), getElem!_pos _ j hj]
  rfl
 refine (Any.slices_Delete_int Ry g 0 cap 0 1 (x :: xs) w hH hnc (by omega) (by decide) (by simp)).mono fun e w' h => ?_
 obtain ⟨rfl, q, rfl⟩ := h
 have hb : (Sort.putRow (Value.int .i64) (Sort.ahead w q) g 0 ((x :: xs).take 0 ++ (x :: xs).drop 1 ++ List.replicate (1 - 0) 0).toArray).heap[g]? = some (.cells (Sort.putCells (Value.int .i64) 0 (xs ++ [0]).toArray cur) 3 (0, 0)) := by
  unfold Sort.putRow Sort.mapBlock
  simp only [Sort.heap_ahead, Array.getElem?_modify, if_true, hg, Option.map_some, Sort.onCells]
  rfl
 refine ⟨rfl, qN hb hbg (by omega) hcm (by unfold Sort.putCells; rw [Array.size_mapIdx, hcs]) fun j y hj => ?_, ⟨rfl, rfl, rfl, ?_, fun k _ hne => ?_⟩⟩
 ·have hjl : j < xs.length := (List.getElem?_eq_some_iff.1 hj).1
  unfold Sort.putCells
  rw [Array.getElem?_mapIdx, Array.getElem?_eq_getElem (show j < cur.size by omega), Option.map_some, if_pos (by simp; omega), Nat.sub_zero, getElem!_pos _ j (by simp; omega)]
  have : (xs ++ [0]).toArray[j]'(by simp; omega) = y := by
   rw [List.getElem_toArray, List.getElem_append_left hjl]
   exact (List.getElem?_eq_some_iff.1 hj).2
  rw [this]
 ·simp [Sort.putRow, Sort.mapBlock]
 ·unfold Sort.putRow Sort.mapBlock
  simp only [Sort.heap_ahead, Array.getElem?_modify]
  rw [if_neg (fun e => hne (by rw [e]))]
theorem Vj {B g cap : Nat} {x : Int} {xs : List Int} {w : World} (hown : w.ownsRow B 3 1 (.slice (some ⟨g, 0, none⟩) (xs.length + 1) cap) (xs.length + 1) (bq (x :: xs))) :
  Calls Tryz.prog 53 #[.slice (some ⟨g, 0, none⟩) (xs.length + 1) cap, .int .i64 x] w fun e w' => e = .returned (.int .i64 0) ∧ w' = w := by
 obtain ⟨cur, -, hbg, hg, hnc, hcm, hcs, hget⟩ := jt hown
 have hnc : xs.length + 1 ≤ cap := hnc
 have hmax : (maxLen : Nat) = 9223372036854775807 := rfl
 refine (Any.slices_Index_int RF g 0 (xs.length + 1) cap (x :: xs) x w (by simp) (by omega) (fun j hj => ?_)).mono fun e w' h => ?_
 ·rw [Nat.zero_add, aQ hg (hget j _ (List.getElem?_eq_getElem hj)), List.getD_eq_getElem?_getD, List.getElem?_eq_getElem hj]
  rfl
 ·obtain ⟨rfl, rfl⟩ := h
  refine ⟨?_, rfl⟩
  have : Lib.idxOf ((x :: xs).take (xs.length + 1)) x = 0 := by
   rw [List.take_succ_cons]
   simp [Lib.idxOf, Lib.idxFrom]
  rw [this]
end Go.Proofs.YtlnlichdidobpaaGreatDoor.Turns
namespace Go.Proofs.YtlnlichdidobpaaGreatDoor.Turns
set_option maxRecDepth 100000
set_option maxHeartbeats 4000000
set_option linter.unusedSimpArgs false
set_option linter.unusedVariables false
open Go Go.Proofs Go.RowKit
def xf (lev : Int) : Int := IntKind.u32.wrap (1 * 2 ^ min lev.toNat IntKind.u32.bits)
def w9 (a lev : Int) : Int := Go.bits .or .u32 a (xf lev)
def Aj (a lev : Int) : Int := Go.bits .andNot .u32 a (xf lev)
theorem wrap_u32 (n : Nat) (h : n < 4294967296) : IntKind.u32.wrap (n : Int) = (n : Int) := by
 show (n : Int) % 4294967296 = n
 omega
theorem tB {lev : Int} (h0 : 0 ≤ lev) (h1 : lev < 32) : xf lev = ((2 ^ lev.toNat : Nat) : Int) := by
 have h : (2 : Nat) ^ lev.toNat < 2 ^ 32 := Nat.pow_lt_pow_right (by omega) (by omega)
 unfold xf
 rw [show min lev.toNat IntKind.u32.bits = lev.toNat from Nat.min_eq_left (show lev.toNat ≤ 32 by omega), Int.one_mul]
 have := wrap_u32 (2 ^ lev.toNat) h
 rw [Int.natCast_pow] at this ⊢
 exact this
theorem ku {x : Int} (h0 : 0 ≤ x) (h1 : x < 4294967296) : (BitVec.ofInt 32 x).toNat = x.toNat := by
 rw [BitVec.toNat_ofInt]
 show (x % ((2 ^ 32 : Nat) : Int)).toNat = _
 have : ((2 ^ 32 : Nat) : Int) = 4294967296 := by decide
 rw [this]
 congr 1
 omega
theorem zf {lev : Int} (h0 : 0 ≤ lev) (h1 : lev < 32) : ((2 ^ lev.toNat : Nat) : Int) < 4294967296 := by
 have h : (2 : Nat) ^ lev.toNat < 2 ^ 32 := Nat.pow_lt_pow_right (by omega) (by omega)
 have e : (2 : Nat) ^ 32 = 4294967296 := by decide
 omega
theorem F0 {a lev : Int} (ha : 0 ≤ a ∧ a < 4294967296) (h0 : 0 ≤ lev) (h1 : lev < 32) :
  (0 ≤ w9 a lev ∧ w9 a lev < 4294967296) ∧ ∀ i, i < 32 → ((w9 a lev).toNat.testBit i = true ↔ (a.toNat.testBit i = true ∨ lev = i)) := by
 have hp := zf h0 h1
 have e : w9 a lev = ((BitVec.ofInt 32 a ||| BitVec.ofInt 32 (xf lev)).toNat : Int) := wrap_u32 _ (BitVec.ofInt 32 a ||| BitVec.ofInt 32 (xf lev)).isLt
 have hl := (BitVec.ofInt 32 a ||| BitVec.ofInt 32 (xf lev)).isLt
 refine ⟨by rw [e]; omega, fun i hi => ?_⟩
 rw [e, Int.toNat_natCast, BitVec.testBit_toNat, BitVec.getLsbD_or, ← BitVec.testBit_toNat, ← BitVec.testBit_toNat, ku ha.1 ha.2, tB h0 h1, ku (Int.natCast_nonneg _) hp, Int.toNat_natCast, Nat.testBit_two_pow]
 simp only [Bool.or_eq_true, decide_eq_true_eq]
 constructor
 ·rintro (h | h)
  ·exact .inl h
  ·exact .inr (by omega)
 ·rintro (h | h)
  ·exact .inl h
  ·exact .inr (by omega)
theorem EA {a lev : Int} (ha : 0 ≤ a ∧ a < 4294967296) (h0 : 0 ≤ lev) (h1 : lev < 32) :
  (0 ≤ Aj a lev ∧ Aj a lev < 4294967296) ∧ ∀ i, i < 32 → ((Aj a lev).toNat.testBit i = true ↔ (a.toNat.testBit i = true ∧ lev ≠ i)) := by
 have hp := zf h0 h1
 have e : Aj a lev = ((BitVec.ofInt 32 a &&& ~~~ BitVec.ofInt 32 (xf lev)).toNat : Int) := wrap_u32 _ (BitVec.ofInt 32 a &&& ~~~ BitVec.ofInt 32 (xf lev)).isLt
 have hl := (BitVec.ofInt 32 a &&& ~~~ BitVec.ofInt 32 (xf lev)).isLt
 refine ⟨by rw [e]; omega, fun i hi => ?_⟩
 rw [e, Int.toNat_natCast, BitVec.testBit_toNat, BitVec.getLsbD_and, BitVec.getLsbD_not, ← BitVec.testBit_toNat, ← BitVec.testBit_toNat, ku ha.1 ha.2, tB h0 h1, ku (Int.natCast_nonneg _) hp, Int.toNat_natCast, Nat.testBit_two_pow]
 simp only [Bool.and_eq_true, decide_eq_true_eq, Bool.not_eq_true', decide_eq_false_iff_not, hi, true_and]
 constructor
 ·rintro ⟨h, g⟩
  exact ⟨h, by omega⟩
 ·rintro ⟨h, g⟩
  exact ⟨h, by omega⟩
theorem pP {v m : Nat} (h0 : 2 ^ m ≤ v) (h1 : v < 2 ^ (m + 1)) (hm : m < 64) : Lib.bitLen v = m + 1 := by
 have h2 : v < 2 ^ 64 := Nat.lt_of_lt_of_le h1 (Nat.pow_le_pow_right (by omega) (by omega))
 rw [Lib.bitLen_shift m v h0 h2]
 have : v / 2 ^ m = 1 := by
  apply Nat.div_eq_of_lt_le
  ·omega
  ·rw [Nat.pow_succ] at h1; omega
 rw [this]
 rfl
theorem Er : ∀ (m : Nat) {v : Nat}, v ≠ 0 → v < 2 ^ m → m ≤ 32 → ∃ t, t < m ∧ Lib.bitLen v = t + 1 ∧ v.testBit t = true ∧ ∀ i, t < i → v.testBit i = false
 | 0, v, h0, h1, _ => by simp at h1; omega
 | m + 1, v, h0, h1, hm => by
  rcases Nat.lt_or_ge v (2 ^ m) with h | h
  ·obtain ⟨t, a1, a2⟩ := Er m h0 h (by omega)
   exact ⟨t, by omega, a2⟩
  ·refine ⟨m, by omega, pP h h1 (by omega), ?_, fun i hi => ?_⟩
   ·rw [Nat.testBit_eq_decide_div_mod_eq]
    have : v / 2 ^ m = 1 := by
     apply Nat.div_eq_of_lt_le
     ·omega
     ·rw [Nat.pow_succ] at h1; omega
    rw [this]; rfl
   ·apply Nat.testBit_lt_two_pow
    exact Nat.lt_of_lt_of_le h1 (Nat.pow_le_pow_right (by omega) hi)
end Go.Proofs.YtlnlichdidobpaaGreatDoor.Turns
namespace Go.Proofs.YtlnlichdidobpaaGreatDoor.Turns
set_option maxRecDepth 100000
set_option maxHeartbeats 4000000
set_option linter.unusedSimpArgs false
set_option linter.unusedVariables false
open Go Go.Proofs Go.Shelf Go.RowKit
def lv (L : QL) (i : Nat) : List Int := (L.filter fun e => decide (e.2 = (i : Int))).map fun e => e.1
def dz (s : Int) (F : Nat → Value) (m : Nat) : List Value := .int .u32 s :: ((List.range 32).map F ++ [.map (some m)])
structure ni (B q m : Nat) (W : World) (L : QL) (s : Int) (F : Nat → Value) : Prop where
 tm : W.heap[q]? = some (.cells (dz s F m).toArray 56 (0, 0))
 s0 : 0 ≤ s
 s1 : s < 4294967296
 bits : ∀ i : Nat, i < 32 → (s.toNat.testBit i = true ↔ lv L i ≠ [])
 rows : ∀ i, i < 32 → W.ownsRow B 3 1 (F i) (lv L i).length (bq (lv L i))
 apart : ∀ i j, i < 32 → j < 32 → i ≠ j → ∀ g, (F i).ownBlock = some g → (F j).ownBlock ≠ some g
 nj : ∀ i, i < 32 → (F i).ownBlock ≠ some q ∧ (F i).ownBlock ≠ some m
 map : P4 W m L
 nq : B ≤ q
 nm : B ≤ m
 qm : q ≠ m
theorem sJ {s : Int} {F : Nat → Value} {m : Nat} : (dz s F m)[0]? = some (.int .u32 s) ∧ (∀ i, i < 32 → (dz s F m)[1 + i]? = some (F i)) ∧ (dz s F m)[33]? = some (.map (some m)) := by
 refine ⟨rfl, fun i hi => ?_, rfl⟩
 unfold dz
 rw [Nat.add_comm, List.getElem?_cons_succ, List.getElem?_append_left (by simpa using hi), List.getElem?_map, List.getElem?_range hi]
 rfl
section
variable {B q m : Nat} {W : World} {L : QL} {s : Int} {F : Nat → Value}
theorem ni.c0 (h : ni B q m W L s F) : W.cell? ⟨q, 0, none⟩ = some (.int .u32 s) := aQ h.tm (by simpa using sJ.1)
theorem ni.cl (h : ni B q m W L s F) {i : Nat} (hi : i < 32) : W.cell? ⟨q, 1 + i, none⟩ = some (F i) := aQ h.tm (by simpa using sJ.2.1 i hi)
theorem ni.cm (h : ni B q m W L s F) : W.cell? ⟨q, 33, none⟩ = some (.map (some m)) := aQ h.tm (by simpa using sJ.2.2)
theorem ni.fz (h : ni B q m W L s F) (j : Nat) : W.frozen? ⟨q, j, none⟩ = false := by simp [World.frozen?, h.tm]
theorem ni.lt (h : ni B q m W L s F) : q < W.heap.size := (Array.getElem?_eq_some_iff.1 h.tm).1
end
def fY (F : Nat → Value) (i : Nat) (v : Value) (j : Nat) : Value := if j = i then v else F j
theorem eJ (F : Nat → Value) (i : Nat) (v : Value) : fY F i v i = v := if_pos rfl
theorem gR (F : Nat → Value) {i j : Nat} (v : Value) (h : j ≠ i) : fY F i v j = F j := if_neg h
theorem OJ {s : Int} {F : Nat → Value} {m lev : Nat} (hl : lev < 32) (v : Value) : (dz s F m).set (1 + lev) v = dz s (fY F lev v) m := by
 apply List.ext_getElem?
 intro j
 have hlen : (dz s F m).length = 34 := by simp [dz]
 have hlen2 : (dz s (fY F lev v) m).length = 34 := by simp [dz]
 by_cases hj : j < 34
 ·rw [List.getElem?_set]
  by_cases e : 1 + lev = j
  ·subst e
   rw [if_pos rfl, if_pos (by omega), sJ.2.1 lev hl, eJ]
  ·rw [if_neg e]
   rcases (show j = 0 ∨ j = 33 ∨ ∃ i, i < 32 ∧ j = 1 + i from by
    rcases Nat.eq_zero_or_pos j with h | h
    ·exact .inl h
    ·by_cases h2 : j = 33
     ·exact .inr (.inl h2)
     ·exact .inr (.inr ⟨j - 1, by omega, by omega⟩)) with h | h | ⟨i, hi, rfl⟩
   ·subst h; rfl
   ·subst h; rfl
   ·rw [sJ.2.1 i hi, sJ.2.1 i hi, gR F v (by omega)]
 ·rw [List.getElem?_eq_none (by rw [List.length_set]; omega), List.getElem?_eq_none (by omega)]
theorem lF {w : World} {b o : Nat} {l : List Value} {e : TypeId} {v : Value} (h : w.heap[b]? = some (.cells l.toArray e (0, 0))) : (w.setCell ⟨b, o, none⟩ v).heap[b]? = some (.cells (l.set o v).toArray e (0, 0)) := by
 unfold World.setCell
 simp [Array.getElem?_modify, h]
theorem bd {w : World} {b o k : Nat} {v : Value} (h : k ≠ b) : (w.setCell ⟨b, o, none⟩ v).heap[k]? = w.heap[k]? := by
 unfold World.setCell
 simp only [Array.getElem?_modify]
 rw [if_neg (fun e => h e.symm)]
structure Step (w w' : World) (q m : Nat) (F F' : Nat → Value) : Prop where
 os : w'.os = w.os
 tape : w'.tape = w.tape
 output : w'.output = w.output
 size : w.heap.size ≤ w'.heap.size
 tm : ∀ k, k < w.heap.size → k ≠ q → k ≠ m → (∀ i, i < 32 → (F i).ownBlock ≠ some k) → w'.heap[k]? = w.heap[k]?
 new : ∀ i, i < 32 → ∀ g, (F' i).ownBlock = some g → (∃ j, j < 32 ∧ (F j).ownBlock = some g) ∨ w.heap.size ≤ g
theorem lh {B : Nat} {v : Value} {n : Nat} {xs : List Value} {w w' : World} (h : w.ownsRow B 3 1 v n xs) (hb : ∀ g, v.ownBlock = some g → w'.heap[g]? = w.heap[g]?) : w'.ownsRow B 3 1 v n xs := by
 refine ⟨h.1, ?_⟩
 rcases h.2 with hn | ⟨g, cap, cur, rfl, h1, h2, h3⟩
 ·exact .inl hn
 ·exact .inr ⟨g, cap, cur, rfl, h1, (hb g rfl).trans h2, h3⟩
theorem jN {B : Nat} {v : Value} {n : Nat} {xs : List Value} {w : World} (h : w.ownsRow B 3 1 v n xs) {g : Nat} (hg : v.ownBlock = some g) : g < w.heap.size := (h.lt g hg).2
structure UM (W W' : World) (m : Nat) (o' : Obj) : Prop where
 at_ : W'.heap[m]? = some o'
 other : ∀ k, k ≠ m → W'.heap[k]? = W.heap[k]?
 os : W'.os = W.os
 tape : W'.tape = W.tape
 output : W'.output = W.output
 size : W'.heap.size = W.heap.size
theorem CK {W : World} {m : Nat} {o o' : Obj} (h : W.heap[m]? = some o) : ∃ W', W' = { W with heap := W.heap.setIfInBounds m o' } ∧ UM W W' m o' :=
 ⟨_, rfl, (Go.MapKept.heap_set h).1, (Go.MapKept.heap_set h).2, rfl, rfl, rfl, by simp⟩
theorem xP {B q m : Nat} {W : World} {L : QL} {s : Int} {F : Nat → Value} (h : ni B q m W L s F) {id : Int} {lev : Nat} (hl : lev < 32) (hid : ∀ l, (id, l) ∉ L)
  {v' : Value} {w2 : World} {xs' : List Int} (hgr : W.grownBy w2 (F lev).ownBlock) (hat : v'.ownBlock = (F lev).ownBlock ∨ ∃ g, v'.ownBlock = some g ∧ W.heap.size ≤ g) (hown : w2.ownsRow B 3 1 v' xs'.length (bq xs')) :
  (w2.cell? ⟨q, 0, none⟩ = some (.int .u32 s) ∧ w2.cell? ⟨q, 33, none⟩ = some (.map (some m)) ∧ (∀ j, w2.frozen? ⟨q, j, none⟩ = false) ∧ w2.cell? ⟨q, 1 + lev, none⟩ = some (F lev)) ∧
  ∃ (clock : Nat) (W4 W5 : World), (Instr.mapEntry 52 (.map (some m)) (.int .i64 id)).run Tryz.prog (w2.setCell ⟨q, 1 + lev, none⟩ v').drew = .ok (.tuple #[.int .i64 0, .int .i64 clock]) W4 ∧
   (Instr.entryStore 52 (.map (some m)) (.int .i64 clock) (.int .i64 lev)).run Tryz.prog W4 = .ok () W5 ∧ W5.drew.cell? ⟨q, 0, none⟩ = some (.int .u32 s) ∧ (∀ j, W5.frozen? ⟨q, j, none⟩ = false) ∧
   ∀ L' : QL, lv L' lev = xs' → (∀ i, i < 32 → i ≠ lev → lv L' i = lv L i) → (∀ p, p ∈ L' ↔ p = (id, (lev : Int)) ∨ p ∈ L) → xs' ≠ [] →
    ni B q m (W5.setCell ⟨q, 0, none⟩ (.int .u32 (w9 s lev))).drew L' (w9 s lev) (fY F lev v') ∧ Step W (W5.setCell ⟨q, 0, none⟩ (.int .u32 (w9 s lev))).drew q m F (fY F lev v') := by
 have hql := h.lt
 obtain ⟨E, clock, hmb, hE, hEL⟩ := h.map
 have hml : m < W.heap.size := (Array.getElem?_eq_some_iff.1 hmb).1
 have hq2 : w2.heap[q]? = some (.cells (dz s F m).toArray 56 (0, 0)) := (hgr.block q hql (fun e => (h.nj lev hl).1 e.symm)).trans h.tm
 have hm2 : w2.heap[m]? = some (.map (E.map gz).toArray clock) := (hgr.block m hml (fun e => (h.nj lev hl).2 e.symm)).trans hmb
 have hq3 : (w2.setCell ⟨q, 1 + lev, none⟩ v').drew.heap[q]? = some (.cells (dz s (fY F lev v') m).toArray 56 (0, 0)) := by
  have := lF (o := 1 + lev) (v := v') hq2
  rw [OJ hl] at this
  exact this
 have hm3 : (w2.setCell ⟨q, 1 + lev, none⟩ v').drew.heap[m]? = some (.map (E.map gz).toArray clock) := (bd (w := w2) (fun e => h.qm e.symm)).trans hm2
 have hnE : id ∉ E.map (fun x => x.1) := fun hm => by
  obtain ⟨x, hx, rfl⟩ := List.mem_map.1 hm
  exact hid x.2.1 ((hEL (x.1, x.2.1)).2 ⟨x.2.2, hx⟩)
 have hme := F6 hm3 52 Tryz.underlying52 hnE
 obtain ⟨W4, w4, m4⟩ := CK (W := (w2.setCell ⟨q, 1 + lev, none⟩ v').drew) (o' := .map ((E ++ [(id, 0, clock)]).map gz).toArray (clock + 1)) hm3
 rw [← w4] at hme
 have hes := BN (lev := lev) m4.at_ hE.2.1 52
 obtain ⟨W5, w5, m5⟩ := CK (o' := .map ((E ++ [(id, (lev : Int), clock)]).map gz).toArray (clock + 1)) m4.at_
 rw [← w5] at hes
 have hq5 := (m5.other q h.qm).trans ((m4.other q h.qm).trans hq3)
 refine ⟨⟨aQ hq2 (by simpa using sJ.1), aQ hq2 (by simpa using sJ.2.2), fun j => by simp [World.frozen?, hq2], aQ hq2 (by simpa using sJ.2.1 lev hl)⟩, clock, W4, W5, hme, hes, aQ (w := W5.drew) hq5 (by simpa using sJ.1), fun j => by simp [World.frozen?, hq5], fun L' e1 e2 e3 e4 => ?_⟩
 have hsb := F0 (a := s) (lev := (lev : Int)) ⟨h.s0, h.s1⟩ (by omega) (by omega)
 generalize hs' : w9 s lev = s' at hsb ⊢
 have hq6 : (W5.setCell ⟨q, 0, none⟩ (.int .u32 s')).drew.heap[q]? = some (.cells (dz s' (fY F lev v') m).toArray 56 (0, 0)) := lF (o := 0) (v := .int .u32 s') hq5
 have hm6 : (W5.setCell ⟨q, 0, none⟩ (.int .u32 s')).drew.heap[m]? = some (.map ((E ++ [(id, (lev : Int), clock)]).map gz).toArray (clock + 1)) := (bd (w := W5) (fun e => h.qm e.symm)).trans m5.at_
 have hk6 : ∀ k, k ≠ q → k ≠ m → (W5.setCell ⟨q, 0, none⟩ (.int .u32 s')).drew.heap[k]? = w2.heap[k]? := fun k h1 h2 => (bd (w := W5) h1).trans ((m5.other k h2).trans ((m4.other k h2).trans (bd (w := w2) h1)))
 have hv : ∀ g, v'.ownBlock = some g → g ≠ q ∧ g ≠ m ∧ ∀ j, j < 32 → j ≠ lev → (F j).ownBlock ≠ some g := fun g hg => by
  rcases hat with ha | ⟨g', ha, hge⟩
  ·rw [ha] at hg
   exact ⟨fun e => (h.nj lev hl).1 (by rw [hg, e]), fun e => (h.nj lev hl).2 (by rw [hg, e]), fun j hj hne hfj => h.apart lev j hl hj (fun e => hne e.symm) g hg hfj⟩
  ·rw [ha] at hg
   injection hg with hg
   subst hg
   exact ⟨by omega, by omega, fun j hj _ hfj => by
    have := jN (h.rows j hj) hfj
    omega⟩
 refine ⟨⟨hq6, hsb.1.1, hsb.1.2, fun i hi => ?_, fun i hi => ?_, fun i j hi hj hij g hg => ?_, fun i hi => ?_, ?_, h.nq, h.nm, h.qm⟩, ⟨?_, ?_, ?_, ?_, fun k hk hkq hkm hkf => ?_, fun i hi g hg => ?_⟩⟩
 ·rw [hsb.2 i hi]
  by_cases e : i = lev
  ·subst e
   rw [e1]
   exact ⟨fun _ => e4, fun _ => .inr rfl⟩
  ·rw [e2 i hi e, ← h.bits i hi]
   exact ⟨fun hh => hh.resolve_right (fun hh => e (by omega)), .inl⟩
 ·by_cases e : i = lev
  ·subst e
   rw [eJ, e1]
   exact lh hown fun g hg => hk6 g (hv g hg).1 (hv g hg).2.1
  ·rw [gR F v' e, e2 i hi e]
   refine lh (h.rows i hi) fun g hg => ?_
   have hgl := jN (h.rows i hi) hg
   rw [hk6 g (fun e => (h.nj i hi).1 (by rw [hg, e])) (fun e => (h.nj i hi).2 (by rw [hg, e]))]
   exact hgr.block g hgl (fun e' => h.apart i lev hi hl e g hg e'.symm)
 ·by_cases e : i = lev
  ·subst e
   rw [eJ] at hg
   rw [gR F v' (fun e => hij e.symm)]
   exact (hv g hg).2.2 j hj (fun e => hij e.symm)
  ·rw [gR F v' e] at hg
   by_cases e' : j = lev
   ·subst e'
    rw [eJ]
    intro hg'
    exact (hv g hg').2.2 i hi e hg
   ·rw [gR F v' e']
    exact h.apart i j hi hj hij g hg
 ·by_cases e : i = lev
  ·subst e
   rw [eJ]
   exact ⟨fun hg => (hv q hg).1 rfl, fun hg => (hv m hg).2.1 rfl⟩
  ·rw [gR F v' e]
   exact h.nj i hi
 ·refine ⟨E ++ [(id, (lev : Int), clock)], clock + 1, hm6, ⟨?_, fun x hx => ?_, ?_⟩, fun p => ?_⟩
  ·rw [List.map_append, List.nodup_append]
   refine ⟨hE.1, by simp, fun a ha b hb e => ?_⟩
   simp at hb
   subst hb e
   exact hnE ha
  ·rcases List.mem_append.1 hx with hx | hx
   ·have := hE.2.1 x hx
    omega
   ·rw [List.mem_singleton.1 hx]
    exact Nat.lt_succ_self _
  ·rw [List.map_append, List.nodup_append]
   refine ⟨hE.2.2, by simp, fun a ha b hb e => ?_⟩
   simp at hb
   subst hb e
   obtain ⟨x, hx, hx2⟩ := List.mem_map.1 ha
   have := hE.2.1 x hx
   omega
  ·rw [e3 p, hEL p]
   constructor
   ·rintro (rfl | ⟨b, hb⟩)
    ·exact ⟨clock, List.mem_append_right _ (List.mem_singleton.2 rfl)⟩
    ·exact ⟨b, List.mem_append_left _ hb⟩
   ·rintro ⟨b, hb⟩
    rcases List.mem_append.1 hb with hb | hb
    ·exact .inr ⟨b, hb⟩
    ·have := List.mem_singleton.1 hb
     simp only [Prod.mk.injEq] at this
     exact .inl (Prod.ext this.1 this.2.1)
 ·exact (m5.os.trans m4.os).trans hgr.os
 ·exact (m5.tape.trans m4.tape).trans hgr.tape
 ·exact (m5.output.trans m4.output).trans hgr.output
 ·have e6 : (W5.setCell ⟨q, 0, none⟩ (.int .u32 s')).drew.heap.size = W5.heap.size := by show (W5.setCell _ _).heap.size = _; simp [World.setCell]
  have e7 : (w2.setCell ⟨q, 1 + lev, none⟩ v').drew.heap.size = w2.heap.size := by show (w2.setCell _ _).heap.size = _; simp [World.setCell]
  rw [e6, m5.size, m4.size, e7]
  exact hgr.size
 ·rw [hk6 k hkq hkm]
  exact hgr.block k hk (fun e => hkf lev hl e.symm)
 ·by_cases e : i = lev
  ·subst e
   rw [eJ] at hg
   rcases hat with ha | ⟨g', ha, hge⟩
   ·exact .inl ⟨i, hi, by rw [← ha]; exact hg⟩
   ·rw [ha] at hg
    injection hg with hg
    subst hg
    exact .inr hge
  ·rw [gR F v' e] at hg
   exact .inl ⟨i, hi, hg⟩
theorem Jb {L : QL} {i : Nat} {id : Int} : id ∈ lv L i ↔ (id, (i : Int)) ∈ L := by
 unfold lv
 simp only [List.mem_map, List.mem_filter, decide_eq_true_eq]
 constructor
 ·rintro ⟨e, ⟨h1, h2⟩, rfl⟩
  rw [← h2]
  exact h1
 ·exact fun h => ⟨_, ⟨h, rfl⟩, rfl⟩
theorem AS {B q m : Nat} {W : World} {L L' : QL} {s : Int} {F : Nat → Value} (h : ni B q m W L s F) (hB : B ≤ W.heap.size) {id : Int} {lev : Nat} (hl : lev < 32) (hid : ∀ l, (id, l) ∉ L) (hn : (lv L lev).length ≤ 1000000) (hd : Bool)
  (q1 : lv L' lev = if hd = true then id :: lv L lev else lv L lev ++ [id]) (q2 : ∀ i, i < 32 → i ≠ lev → lv L' i = lv L i) (q3 : ∀ p, p ∈ L' ↔ p = (id, (lev : Int)) ∨ p ∈ L) :
  Calls Tryz.prog 23 #[.pointer (some ⟨q, 0, none⟩), .int .i64 id, .int .i64 lev, .bool hd] W fun e w' => e = .returned (.tuple #[]) ∧ ∃ s' F', ni B q m w' L' s' F' ∧ Step W w' q m F F' := by
 obtain ⟨i0, hi, hz0, hz1, hz2⟩ := info_parts (show (Tryz.prog.info? 3).map (fun i => (i.zero, i.size, i.bytes)) = some (some (.int .i64 0), 1, 8) by kernel_rfl)
 have c0 := h.c0
 have cl := h.cl hl
 have cm := h.cm
 have hli : (lev : Int) < 32 := by omega
 have hl0 : (0 : Int) ≤ (lev : Int) := by omega
 have hrow := h.rows lev hl
 have hsB : w9 s lev = Go.bits .or .u32 s (2 ^ lev % 4294967296) := by
  have hp := zf (lev := (lev : Int)) (by omega) (by omega)
  unfold w9
  rw [tB (by omega) (by omega), Int.toNat_natCast, Int.natCast_pow]
  rw [Int.toNat_natCast, Int.natCast_pow] at hp
  congr 1
  have h0 : (0 : Int) ≤ ((2 : Nat) : Int) ^ lev := by rw [← Int.natCast_pow]; exact Int.natCast_nonneg _
  exact (Int.emod_eq_of_lt h0 hp).symm
 have hslice : ∀ {w2 : World} {v' : Value} {n : Nat} {xs : List Value}, w2.ownsRow B 3 1 v' n xs → ∃ ao n' cap, v' = .slice ao n' cap := by
  intro w2 v' n xs ho
  rcases ho.2 with ⟨hv, _⟩ | ⟨g, cap, cur, hv, _⟩
  ·exact ⟨_, _, _, hv⟩
  ·exact ⟨_, _, _, hv⟩
 cases hd with
 | false =>
  have Q1 : Hid (lv L' lev = lv L lev ++ [id]) := Lib.hid (q1.trans (if_neg (by decide)))
  clear q1
  go_enter Tryz.func23, Tryz.ntmps23
  go_wp2_with (at_builtin; refine wpList_append_own_at _ rfl _ _ 28 rfl B 3 i0 (.int .i64 0) 1 8 Tryz.underlying28 hi hz0 hz1 hz2 rfl (by decide) _ _ _ rfl (hrow.alloc _) ⟨W.heap.size, 0, none⟩ 1 1 [.int .i64 id] rfl rfl ?c1 ?c2 ?c3 ?c4 ?c5 ?_)
  case c1 =>
   intro j u hj
   match j, hj with
   | 0, hj => simp at hj; subst hj; simp [Addr.add]
  case c2 => intro u hu; simp at hu; subst hu; rfl
  case c3 => unfold maxLen; omega
  case c4 => omega
  case c5 => simp; omega
  intro v' w2 hown' hgrow _ hat
  obtain ⟨ao, n', cap, rfl⟩ := hslice hown'
  have hgr : W.grownBy w2 (F lev).ownBlock := ⟨hgrow.os, hgrow.tape, hgrow.output, Nat.le_trans (by simp) hgrow.size, fun k hk hne => (hgrow.block k (by simp; omega) hne).trans (heap_alloc_old W _ hk)⟩
  have hown2 : w2.ownsRow B 3 1 (.slice ao n' cap) (lv L lev ++ [id]).length (bq (lv L lev ++ [id])) := by
   have : bq (lv L lev) ++ [.int .i64 id] = bq (lv L lev ++ [id]) := by simp [bq]
   rw [← this, List.length_append]
   exact hown'
  obtain ⟨⟨d0, dm, f2, d1⟩, clock, W4, W5, hme, hes, e0, ef, fin⟩ := xP h hl hid hgr (hat.imp _root_.id fun ha => ⟨_, ha, by simp⟩) hown2
  have key := fin L' Q1.out q2 q3 (by simp)
  rw [hsB] at key
  clear fin hgrow hgr hown' hown2 hat c0 cl cm hrow
  go_wp2
  go_region
  all_goals go_wp2
  all_goals go_region
  all_goals (go_end0; exact ⟨rfl, _, _, key⟩)
 | true =>
  have Q1 : Hid (lv L' lev = id :: lv L lev) := Lib.hid (q1.trans (if_pos rfl))
  clear q1
  have hal : (W.alloc (.cells #[.int .i64 id] 3)).ownsRow B 3 1 (F lev) (lv L lev).length (bq (lv L lev)) := hrow.alloc _
  have hvb : (W.alloc (.cells #[.int .i64 id] 3)).heap[W.heap.size]? = some (.cells #[.int .i64 id] 3 (0, 0)) := iM W _
  have hnv : (F lev).ownBlock ≠ some W.heap.size := fun e => by
   have := jN hrow e
   omega
  have hins := VA hal hvb hnv hn (by simp; omega)
  go_enter Tryz.func23, Tryz.ntmps23
  go_wp2_with (go_at_call 52; refine hins.mono ?_; rintro e w2 ⟨v', rfl, hown', hgrow, hat⟩; refine Hid.out ?_)
  refine Lib.hid ?_
  obtain ⟨ao, n', cap, rfl⟩ := hslice hown'
  have hgr : W.grownBy w2 (F lev).ownBlock := ⟨hgrow.os, hgrow.tape, hgrow.output, Nat.le_trans (by simp) hgrow.size, fun k hk hne => (hgrow.block k (by simp; omega) hne).trans (heap_alloc_old W _ hk)⟩
  obtain ⟨⟨d0, dm, f2, d1⟩, clock, W4, W5, hme, hes, e0, ef, fin⟩ := xP (xs' := id :: lv L lev) h hl hid hgr (hat.imp _root_.id fun ha => ⟨_, ha, by simp⟩) hown'
  have key := fin L' Q1.out q2 q3 (by simp)
  rw [hsB] at key
  clear fin hgrow hgr hown' hat c0 cl cm hrow hins hal
  go_wp2
  go_region
  all_goals go_wp2
  all_goals go_region
  all_goals (go_end0; exact ⟨rfl, _, _, key⟩)
end Go.Proofs.YtlnlichdidobpaaGreatDoor.Turns
namespace Go.Proofs.YtlnlichdidobpaaGreatDoor.Turns
set_option maxRecDepth 100000
set_option maxHeartbeats 4000000
set_option linter.unusedSimpArgs false
set_option linter.unusedVariables false
open Go Go.Proofs Go.Shelf Go.RowKit
theorem ua {B q m : Nat} {W : World} {L L' : QL} {s s' : Int} {F : Nat → Value} (h : ni B q m W L s F) {id : Int} {lev : Nat} (hl : lev < 32) {r : List Int} (hr : lv L lev = id :: r)
  (q1 : lv L' lev = r) (q2 : ∀ i, i < 32 → i ≠ lev → lv L' i = lv L i) (q3 : ∀ p, p ∈ L' ↔ p ∈ L ∧ p ≠ (id, (lev : Int))) {g cap : Nat} (hF : F lev = .slice (some ⟨g, 0, none⟩) (r.length + 1) cap)
  {w2 Wx : World} (hgr : W.grownBy w2 (some g)) (hown : w2.ownsRow B 3 1 (.slice (some ⟨g, 0, none⟩) r.length cap) r.length (bq r))
  (x1 : Wx.heap[q]? = some (.cells (dz s' (fY F lev (.slice (some ⟨g, 0, none⟩) r.length cap)) m).toArray 56 (0, 0))) (x2 : ∀ k, k ≠ q → Wx.heap[k]? = w2.heap[k]?) (x3 : Wx.os = w2.os) (x4 : Wx.tape = w2.tape) (x5 : Wx.output = w2.output) (x6 : Wx.heap.size = w2.heap.size)
  (b0 : 0 ≤ s') (b1 : s' < 4294967296) (b2 : ∀ i : Nat, i < 32 → (s'.toNat.testBit i = true ↔ lv L' i ≠ [])) :
  ∃ W5, (Builtin.delete_ #[52, 3] 0 #[.map (some m), .int .i64 id]).run Tryz.prog Wx = .ok (.tuple #[]) W5 ∧ ni B q m W5 L' s' (fY F lev (.slice (some ⟨g, 0, none⟩) r.length cap)) ∧ Step W W5 q m F (fY F lev (.slice (some ⟨g, 0, none⟩) r.length cap)) := by
 have hql := h.lt
 have hFB : (F lev).ownBlock = some g := congrArg Value.ownBlock hF
 have hgq : g ≠ q := fun e => (h.nj lev hl).1 (by rw [hFB, e])
 have hgm : g ≠ m := fun e => (h.nj lev hl).2 (by rw [hFB, e])
 have hgl : g < W.heap.size := jN (h.rows lev hl) hFB
 obtain ⟨E, clock, hmb, hE, hEL⟩ := h.map
 have hml : m < W.heap.size := (Array.getElem?_eq_some_iff.1 hmb).1
 have hmem : (id, (lev : Int)) ∈ L := Jb.1 (by rw [hr]; exact List.mem_cons_self ..)
 obtain ⟨b, hb⟩ := (hEL (id, (lev : Int))).1 hmem
 obtain ⟨E1, E2, rfl, h1, h2⟩ := xY hb hE.1
 have hmx : Wx.heap[m]? = some (.map ((E1 ++ (id, (lev : Int), b) :: E2).map gz).toArray clock) := (x2 m (fun e => h.qm e.symm)).trans ((hgr.block m hml (fun e => hgm (by injection e with e; exact e.symm))).trans hmb)
 have hrun := Lx hmx h1 52 0 Tryz.underlying52
 obtain ⟨W5, w5, m5⟩ := CK (o' := .map ((E1 ++ E2).map gz).toArray clock) hmx
 rw [← w5] at hrun
 have hk6 : ∀ k, k ≠ q → k ≠ m → W5.heap[k]? = w2.heap[k]? := fun k a1 a2 => (m5.other k a2).trans (x2 k a1)
 refine ⟨W5, hrun, ⟨(m5.other q h.qm).trans x1, b0, b1, b2, fun i hi => ?_, fun i j hi hj hij g' hg' => ?_, fun i hi => ?_, ?_, h.nq, h.nm, h.qm⟩, ⟨?_, ?_, ?_, ?_, fun k hk hkq hkm hkf => ?_, fun i hi g' hg' => ?_⟩⟩
 ·by_cases e : i = lev
  ·subst e
   rw [eJ, q1]
   refine lh hown fun g' hg' => ?_
   injection hg' with hg'
   subst hg'
   exact hk6 g hgq hgm
  ·rw [gR F _ e, q2 i hi e]
   refine lh (h.rows i hi) fun g' hg' => ?_
   have hgl' := jN (h.rows i hi) hg'
   rw [hk6 g' (fun e => (h.nj i hi).1 (by rw [hg', e])) (fun e => (h.nj i hi).2 (by rw [hg', e]))]
   exact hgr.block g' hgl' (fun e' => h.apart i lev hi hl e g' hg' (by rw [hFB, e']))
 ·by_cases e : i = lev
  ·subst e
   rw [eJ] at hg'
   rw [gR F _ (fun e => hij e.symm)]
   exact h.apart i j hi hj hij g' (hFB.trans hg')
  ·rw [gR F _ e] at hg'
   by_cases e' : j = lev
   ·subst e'
    rw [eJ]
    intro hx
    exact h.apart i j hi hj hij g' hg' (hFB.trans hx)
   ·rw [gR F _ e']
    exact h.apart i j hi hj hij g' hg'
 ·by_cases e : i = lev
  ·subst e
   rw [eJ]
   exact ⟨fun hx => (h.nj i hi).1 (hFB.trans hx), fun hx => (h.nj i hi).2 (hFB.trans hx)⟩
  ·rw [gR F _ e]
   exact h.nj i hi
 ·refine ⟨E1 ++ E2, clock, m5.at_, ⟨?_, fun x hx => hE.2.1 x ?_, ?_⟩, fun p => ?_⟩
  ·have := hE.1
   rw [List.map_append, List.map_cons] at this
   rw [List.map_append]
   exact this.sublist (List.Sublist.append (List.Sublist.refl _) (List.sublist_cons_self _ _))
  ·rcases List.mem_append.1 hx with hx | hx
   ·exact List.mem_append_left _ hx
   ·exact List.mem_append_right _ (List.mem_cons_of_mem _ hx)
  ·have := hE.2.2
   rw [List.map_append, List.map_cons] at this
   rw [List.map_append]
   exact this.sublist (List.Sublist.append (List.Sublist.refl _) (List.sublist_cons_self _ _))
  ·rw [q3 p, hEL p]
   constructor
   ·rintro ⟨⟨b', hb'⟩, hne⟩
    rcases List.mem_append.1 hb' with hx | hx
    ·exact ⟨b', List.mem_append_left _ hx⟩
    ·rcases List.mem_cons.1 hx with hx | hx
     ·simp only [Prod.mk.injEq] at hx
      exact absurd (Prod.ext hx.1 hx.2.1) hne
     ·exact ⟨b', List.mem_append_right _ hx⟩
   ·rintro ⟨b', hb'⟩
    rcases List.mem_append.1 hb' with hx | hx
    ·refine ⟨⟨b', List.mem_append_left _ hx⟩, fun e => h1 ?_⟩
     rw [e] at hx
     exact List.mem_map.2 ⟨_, hx, rfl⟩
    ·refine ⟨⟨b', List.mem_append_right _ (List.mem_cons_of_mem _ hx)⟩, fun e => h2 ?_⟩
     rw [e] at hx
     exact List.mem_map.2 ⟨_, hx, rfl⟩
 ·exact (m5.os.trans x3).trans hgr.os
 ·exact (m5.tape.trans x4).trans hgr.tape
 ·exact (m5.output.trans x5).trans hgr.output
 ·rw [m5.size, x6]
  exact hgr.size
 ·rw [hk6 k hkq hkm]
  exact hgr.block k hk (fun e => hkf lev hl (hFB.trans e.symm))
 ·by_cases e : i = lev
  ·subst e
   rw [eJ] at hg'
   exact .inl ⟨i, hi, hFB.trans hg'⟩
  ·rw [gR F _ e] at hg'
   exact .inl ⟨i, hi, hg'⟩
theorem FK {B q m : Nat} {W : World} {L L' : QL} {s : Int} {F : Nat → Value} (h : ni B q m W L s F) (hB : B ≤ W.heap.size) {id : Int} {lev : Nat} (hl : lev < 32) {r : List Int} (hr : lv L lev = id :: r)
  (q1 : lv L' lev = r) (q2 : ∀ i, i < 32 → i ≠ lev → lv L' i = lv L i) (q3 : ∀ p, p ∈ L' ↔ p ∈ L ∧ p ≠ (id, (lev : Int))) :
  Calls Tryz.prog 25 #[.pointer (some ⟨q, 0, none⟩), .int .i64 id] W fun e w' => e = .returned (.tuple #[]) ∧ ∃ s' F', ni B q m w' L' s' F' ∧ Step W w' q m F F' := by
 have c0 := h.c0
 have cl := h.cl hl
 have cm := h.cm
 have fz := h.fz
 have hli : (lev : Int) < 32 := by omega
 have hl0 : (0 : Int) ≤ (lev : Int) := by omega
 have hrow := h.rows lev hl
 rw [hr] at hrow
 have hmem : (id, (lev : Int)) ∈ L := Jb.1 (by rw [hr]; exact List.mem_cons_self ..)
 have hlook := (uK h.map 52 Tryz.underlying52 id).1 lev hmem false
 simp only [Bool.false_eq_true, if_false] at hlook
 obtain ⟨g, cap, hF⟩ : ∃ g cap, F lev = .slice (some ⟨g, 0, none⟩) (r.length + 1) cap := by
  rcases hrow.2 with ⟨_, h0⟩ | ⟨g, cap, cur, hv, _⟩
  ·simp at h0
  ·exact ⟨g, cap, hv⟩
 have hFB := congrArg Value.ownBlock hF
 rw [hF] at cl hrow
 have hidx := Vj (x := id) (xs := r) hrow
 have hgq : g ≠ q := fun e => (h.nj lev hl).1 (by rw [hFB, ← e]; rfl)
 have hqb : W.drew.heap[q]? = some (.cells (dz s F m).toArray 56 (0, 0)) := h.tm
 have hdel := (Vv (w := W.drew) (x := id) (xs := r) hrow).mono (R' := fun e w' => e = .returned (.slice (some ⟨g, 0, none⟩) r.length cap) ∧ w'.cell? ⟨q, 0, none⟩ = some (.int .u32 s) ∧ w'.cell? ⟨q, 33, none⟩ = some (.map (some m)) ∧
   w'.cell? ⟨q, 1 + lev, none⟩ = some (.slice (some ⟨g, 0, none⟩) (r.length + 1) cap) ∧ (∀ j, w'.frozen? ⟨q, j, none⟩ = false) ∧ Hid (w'.ownsRow B 3 1 (.slice (some ⟨g, 0, none⟩) r.length cap) r.length (bq r) ∧ W.drew.grownBy w' (some g))) (fun e w' hh => by
  obtain ⟨h1, h2, h3⟩ := hh
  have hq' : w'.heap[q]? = some (.cells (dz s F m).toArray 56 (0, 0)) := (h3.block q h.lt (fun e => hgq (by injection e with e; exact e.symm))).trans hqb
  exact ⟨h1, aQ hq' (by simpa using sJ.1), aQ hq' (by simpa using sJ.2.2), by rw [← hF]; exact aQ hq' (by simpa using sJ.2.1 lev hl), fun j => by simp [World.frozen?, hq'], Lib.hid ⟨h2, h3⟩⟩)
 go_enter Tryz.func25, Tryz.ntmps25
 go_wp2_with (go_at_call 53; refine hidx.mono ?_; rintro e w' ⟨rfl, hw⟩; rw [hw])
 go_region_with (refine hdel.mono ?_; rintro e w2 ⟨rfl, d0, dm, d1, df, hh⟩)
 obtain ⟨hown', hgrow⟩ := hh.out
 clear hh
 have hgr : W.grownBy w2 (some g) := ⟨hgrow.os, hgrow.tape, hgrow.output, hgrow.size, hgrow.block⟩
 have hq2 : w2.heap[q]? = some (.cells (dz s F m).toArray 56 (0, 0)) := (hgrow.block q h.lt (fun e => hgq (by injection e with e; exact e.symm))).trans h.tm
 have hq3 : (w2.setCell ⟨q, 1 + lev, none⟩ (.slice (some ⟨g, 0, none⟩) r.length cap)).heap[q]? = some (.cells (dz s (fY F lev (.slice (some ⟨g, 0, none⟩) r.length cap)) m).toArray 56 (0, 0)) := by
  have := lF (o := 1 + lev) (v := .slice (some ⟨g, 0, none⟩) r.length cap) hq2
  rwa [OJ hl] at this
 have hz3 : (w2.setCell ⟨q, 1 + lev, none⟩ (.slice (some ⟨g, 0, none⟩) r.length cap)).heap.size = w2.heap.size := by simp [World.setCell]
 have hsB : Aj s lev = Go.bits .andNot .u32 s (2 ^ lev % 4294967296) := by
  have hp := zf (lev := (lev : Int)) (by omega) (by omega)
  unfold Aj
  rw [tB (by omega) (by omega), Int.toNat_natCast, Int.natCast_pow]
  rw [Int.toNat_natCast, Int.natCast_pow] at hp
  congr 1
  have h0 : (0 : Int) ≤ ((2 : Nat) : Int) ^ lev := by rw [← Int.natCast_pow]; exact Int.natCast_nonneg _
  exact (Int.emod_eq_of_lt h0 hp).symm
 have hcb := EA (a := s) (lev := (lev : Int)) ⟨h.s0, h.s1⟩ (by omega) (by omega)
 clear hlook hidx hdel cl cm c0 fz
 by_cases hr0 : r = []
 ·have key := ua h hl hr q1 q2 q3 hF hgr hown' (Wx := ((w2.setCell ⟨q, 1 + lev, none⟩ (.slice (some ⟨g, 0, none⟩) r.length cap)).setCell ⟨q, 0, none⟩ (.int .u32 (Aj s lev))).drew) (lF (o := 0) (v := .int .u32 (Aj s lev)) hq3)
   (fun k hk => (bd (w := w2.setCell _ _) hk).trans (bd (w := w2) hk)) rfl rfl rfl ((show (World.setCell _ _ _).heap.size = _ from by simp [World.setCell])) hcb.1.1 hcb.1.2 (fun i hi => by
    rw [hcb.2 i hi, h.bits i hi]
    by_cases e : i = lev
    ·subst e
     rw [q1, hr0]
     exact ⟨fun hx => absurd rfl hx.2, fun hx => absurd rfl hx⟩
    ·rw [q2 i hi e]
     exact ⟨fun hx => hx.1, fun hx => ⟨hx, fun e' => e (by omega)⟩⟩)
  rw [hsB] at key
  obtain ⟨W5, hrun, hQ, hS⟩ := key
  have K := Lib.hid (And.intro hQ hS)
  clear hQ hS hgr hgrow hown' hq2 hq3 hz3 hcb hrow q1 q2 q3 hr
  subst hr0
  simp only [List.length_nil] at hrun
  go_wp2
  go_region
  go_wp2
  go_end0
  exact ⟨rfl, _, _, K.out⟩
 ·have hrl : r.length ≠ 0 := fun e => hr0 (List.eq_nil_of_length_eq_zero e)
  have key := ua h hl hr q1 q2 q3 hF hgr hown' (Wx := w2.setCell ⟨q, 1 + lev, none⟩ (.slice (some ⟨g, 0, none⟩) r.length cap)) hq3 (fun k hk => bd (w := w2) hk) rfl rfl rfl hz3 h.s0 h.s1 (fun i hi => by
    rw [h.bits i hi]
    by_cases e : i = lev
    ·subst e
     rw [q1, hr]
     exact ⟨fun _ => hr0, fun _ => by simp⟩
    ·rw [q2 i hi e])
  obtain ⟨W5, hrun, hQ, hS⟩ := key
  have K := Lib.hid (And.intro hQ hS)
  clear hQ hS hgr hgrow hown' hq2 hq3 hz3 hcb hrow q1 q2 q3 hr
  have hri : ¬ (r.length : Int) = 0 := by omega
  go_wp2
  go_end0
  exact ⟨rfl, _, _, K.out⟩
end Go.Proofs.YtlnlichdidobpaaGreatDoor.Turns
namespace Go.Proofs.YtlnlichdidobpaaGreatDoor.Turns
set_option maxRecDepth 100000
set_option maxHeartbeats 4000000
set_option linter.unusedSimpArgs false
set_option linter.unusedVariables false
open Go Go.Proofs Go.Shelf Go.RowKit
theorem ni.alloc {B q m : Nat} {W : World} {L : QL} {s : Int} {F : Nat → Value} (h : ni B q m W L s F) (o : Obj) : ni B q m (W.alloc o).drew L s F := by
 have hk : ∀ k, k < W.heap.size → (W.alloc o).drew.heap[k]? = W.heap[k]? := fun k hk => heap_alloc_old W o hk
 obtain ⟨E, clock, hmb, hE, hEL⟩ := h.map
 have hml : m < W.heap.size := (Array.getElem?_eq_some_iff.1 hmb).1
 exact ⟨(hk q h.lt).trans h.tm, h.s0, h.s1, h.bits, fun i hi => lh (h.rows i hi) fun g hg => hk g (jN (h.rows i hi) hg), h.apart, h.nj, ⟨E, clock, (hk m hml).trans hmb, hE, hEL⟩, h.nq, h.nm, h.qm⟩
theorem Step.uR {W w' : World} {q m : Nat} {F F' : Nat → Value} {o : Obj} (h : Step (W.alloc o).drew w' q m F F') : Step W w' q m F F' :=
 ⟨h.os, h.tape, h.output, Nat.le_trans (show W.heap.size ≤ (W.alloc o).heap.size by simp) h.size, fun k hk a b c => (h.tm k (Nat.lt_of_lt_of_le hk (show W.heap.size ≤ (W.alloc o).heap.size by simp)) a b c).trans (heap_alloc_old W o hk),
  fun i hi g hg => (h.new i hi g hg).imp _root_.id fun hx => Nat.le_trans (show W.heap.size ≤ (W.alloc o).heap.size by simp) hx⟩
theorem R1 {B q m : Nat} {W : World} {L L' : QL} {s : Int} {F : Nat → Value} (h : ni B q m W L s F) (hB : B ≤ W.heap.size) {k id : Int} (hk : k = 1 ∨ k = 2) {lev : Nat} (hl : lev < 32) (hid : ∀ l, (id, l) ∉ L) (hn : (lv L lev).length ≤ 1000000)
  (q1 : lv L' lev = if decide (k = 2) = true then id :: lv L lev else lv L lev ++ [id]) (q2 : ∀ i, i < 32 → i ≠ lev → lv L' i = lv L i) (q3 : ∀ p, p ∈ L' ↔ p = (id, (lev : Int)) ∨ p ∈ L) :
  Calls Tryz.prog 14 #[.pointer (some ⟨q, 0, none⟩), .agg #[.int .i64 k, .int .i64 id, .int .i64 lev]] W fun e w' => e = .returned (.tuple #[.int .i64 0, .int .i64 0]) ∧ ∃ s' F', ni B q m w' L' s' F' ∧ Step W w' q m F F' := by
 have hA := h.alloc (.cells #[.int .i64 k, .int .i64 id, .int .i64 lev] 33)
 have cm := hA.cm
 have hli : (lev : Int) < 32 := by omega
 have hl0 : (0 : Int) ≤ (lev : Int) := by omega
 have hlook := (uK hA.map 52 Tryz.underlying52 id).2 hid
 have hB' : B ≤ (W.alloc (.cells #[.int .i64 k, .int .i64 id, .int .i64 lev] 33)).drew.heap.size := Nat.le_trans hB (show W.heap.size ≤ (W.alloc _).heap.size by simp)
 rcases hk with rfl | rfl
 ·have hadd := (AS hA hB' hl hid hn false (q1.trans (by simp)) q2 q3).mono (R' := fun e w' => e = .returned (.tuple #[]) ∧ Hid (∃ s' F', ni B q m w' L' s' F' ∧ Step (W.alloc (.cells #[.int .i64 1, .int .i64 id, .int .i64 lev] 33)).drew w' q m F F')) (fun e w' hh => ⟨hh.1, Lib.hid hh.2⟩)
  clear q1 q2 q3
  go_enter Tryz.func14, Tryz.ntmps14
  go_wp2
  go_region
  go_wp2_with (go_at_call 23; refine hadd.mono ?_; rintro e w' ⟨rfl, hh⟩)
  go_ret2
  obtain ⟨s', F', h1, h2⟩ := hh.out
  exact ⟨rfl, s', F', h1, h2.uR⟩
 ·have hadd := (AS hA hB' hl hid hn true (q1.trans (by simp)) q2 q3).mono (R' := fun e w' => e = .returned (.tuple #[]) ∧ Hid (∃ s' F', ni B q m w' L' s' F' ∧ Step (W.alloc (.cells #[.int .i64 2, .int .i64 id, .int .i64 lev] 33)).drew w' q m F F')) (fun e w' hh => ⟨hh.1, Lib.hid hh.2⟩)
  clear q1 q2 q3
  go_enter Tryz.func14, Tryz.ntmps14
  go_wp2
  go_region
  go_wp2_with (go_at_call 23; refine hadd.mono ?_; rintro e w' ⟨rfl, hh⟩)
  go_ret2
  obtain ⟨s', F', h1, h2⟩ := hh.out
  exact ⟨rfl, s', F', h1, h2.uR⟩
theorem NV {B q m : Nat} {W : World} {L L' : QL} {s : Int} {F : Nat → Value} (h : ni B q m W L s F) (hB : B ≤ W.heap.size) {lev : Nat} (hl : lev < 32) {id : Int} {r : List Int} (hr : lv L lev = id :: r) (htop : ∀ i, i < 32 → lev < i → lv L i = [])
  (q1 : lv L' lev = r) (q2 : ∀ i, i < 32 → i ≠ lev → lv L' i = lv L i) (q3 : ∀ p, p ∈ L' ↔ p ∈ L ∧ p ≠ (id, (lev : Int))) :
  Calls Tryz.prog 14 #[.pointer (some ⟨q, 0, none⟩), .agg #[.int .i64 3, .int .i64 0, .int .i64 0]] W fun e w' => e = .returned (.tuple #[.int .i64 id, .int .i64 0]) ∧ ∃ s' F', ni B q m w' L' s' F' ∧ Step W w' q m F F' := by
 have hA := h.alloc (.cells #[.int .i64 3, .int .i64 0, .int .i64 0] 33)
 have hAA : ni B q m (W.alloc (.cells #[.int .i64 3, .int .i64 0, .int .i64 0] 33)).drew.drew L s F := ⟨hA.tm, hA.s0, hA.s1, hA.bits, hA.rows, hA.apart, hA.nj, hA.map, hA.nq, hA.nm, hA.qm⟩
 have cm := hA.cm
 have c0 := hA.c0
 have cl := hA.cl hl
 have hli : (lev : Int) < 32 := by omega
 have hl0 : (0 : Int) ≤ (lev : Int) := by omega
 have hB' : B ≤ (W.alloc (.cells #[.int .i64 3, .int .i64 0, .int .i64 0] 33)).drew.drew.heap.size := Nat.le_trans hB (show W.heap.size ≤ (W.alloc _).heap.size by simp)
 have hrow := hA.rows lev hl
 rw [hr] at hrow
 obtain ⟨g, cap, hF⟩ : ∃ g cap, F lev = .slice (some ⟨g, 0, none⟩) (r.length + 1) cap := by
  rcases hrow.2 with ⟨_, h0⟩ | ⟨g, cap, cur, hv, _⟩
  ·simp at h0
  ·exact ⟨g, cap, hv⟩
 rw [hF] at cl hrow
 obtain ⟨cur, -, hbg, hg, hnc, hcm, hcs, hget⟩ := jt hrow
 have cg : (W.alloc (.cells #[.int .i64 3, .int .i64 0, .int .i64 0] 33)).drew.cell? ⟨g, 0, none⟩ = some (.int .i64 id) := aQ hg (hget 0 id rfl)
 have hs0 : s ≠ 0 := fun e => by
  have := (h.bits lev hl).2 (by rw [hr]; simp)
  rw [e] at this
  simp at this
 have hlenb : (Lib.bitLen s.toNat : Int) = (lev : Int) + 1 := by
  obtain ⟨t, t1, t2, t3, t4⟩ := Er 32 (v := s.toNat) (by have := h.s0; omega) (by have := h.s1; have := h.s0; omega) (by decide)
  have e1 : lv L t ≠ [] := (h.bits t t1).1 t3
  have e2 : s.toNat.testBit lev = true := (h.bits lev hl).2 (by rw [hr]; simp)
  have e3 : t = lev := by
   rcases Nat.lt_trichotomy t lev with hx | hx | hx
   ·rw [t4 lev hx] at e2
    cases e2
   ·exact hx
   ·exact absurd (htop t t1 hx) e1
  rw [t2, e3]
  rfl
 have hlen := rE s (W.alloc (.cells #[.int .i64 3, .int .i64 0, .int .i64 0] 33)).drew.drew h.s0 (by have := h.s1; omega)
 rw [hlenb] at hlen
 obtain ⟨v0, b0, hlook⟩ : ∃ (v0 : Int) (b0 : Bool), (Instr.lookup 52 (.map (some m)) (.int .i64 0) true).run Tryz.prog (W.alloc (.cells #[.int .i64 3, .int .i64 0, .int .i64 0] 33)).drew = .ok (.tuple #[.int .i64 v0, .bool b0]) (W.alloc (.cells #[.int .i64 3, .int .i64 0, .int .i64 0] 33)).drew := by
  have hl2 := uK hA.map 52 Tryz.underlying52 0
  by_cases hx : ∃ l, ((0 : Int), l) ∈ L
  ·obtain ⟨l, hx⟩ := hx
   exact ⟨l, true, hl2.1 l hx true⟩
  ·exact ⟨0, false, hl2.2 (fun l hl => hx ⟨l, hl⟩)⟩
 have hsub : (lev : Int) + 1 - 1 = lev := by omega
 have hwr : IntKind.i64.wrap (lev : Int) = lev := by
  rw [IntKind.wrap_i64]
  omega
 have hdrop := (FK hAA hB' hl hr q1 q2 q3).mono (R' := fun e w' => e = .returned (.tuple #[]) ∧ Hid (∃ s' F', ni B q m w' L' s' F' ∧ Step (W.alloc (.cells #[.int .i64 3, .int .i64 0, .int .i64 0] 33)).drew.drew w' q m F F')) (fun e w' hh => ⟨hh.1, Lib.hid hh.2⟩)
 clear q1 q2 q3 hg hrow
 go_enter Tryz.func14, Tryz.ntmps14
 go_wp2
 go_region
 go_wp2
 have d0 : (W.alloc (.cells #[.int .i64 3, .int .i64 0, .int .i64 0] 33)).drew.drew.cell? ⟨q, 0, none⟩ = some (.int .u32 s) := c0
 have dl : (W.alloc (.cells #[.int .i64 3, .int .i64 0, .int .i64 0] 33)).drew.drew.cell? ⟨q, 1 + lev, none⟩ = some (.slice (some ⟨g, 0, none⟩) (r.length + 1) cap) := cl
 have dg : (W.alloc (.cells #[.int .i64 3, .int .i64 0, .int .i64 0] 33)).drew.drew.cell? ⟨g, 0, none⟩ = some (.int .i64 id) := cg
 refine wp_region_still_tail 13 (by kernel_rfl) (by kernel_rfl) ?_
 simp only [List.take_succ_cons, List.take_zero, List.drop_succ_cons, List.drop_zero]
 change wpStill _ _ (W.alloc (.cells #[.int .i64 3, .int .i64 0, .int .i64 0] 33)).drew.drew (fun a' => wpList _ _ _ _ a' (W.alloc (.cells #[.int .i64 3, .int .i64 0, .int .i64 0] 33)).drew.drew) _ _
 clear c0 cl cg cm hlook
 generalize hW1 : (W.alloc (.cells #[.int .i64 3, .int .i64 0, .int .i64 0] 33)).drew.drew = W1 at d0 dl dg hlen hdrop ⊢
 have HW1 := Lib.hid hW1
 clear hW1
 repeat (first | still_step | still_call hlen)
 refine wpStill_nil ?_
 go_wp2_with (go_at_call 25; refine hdrop.mono ?_; rintro e w' ⟨rfl, hh⟩)
 go_ret2
 obtain ⟨s', F', h1, h2⟩ := hh.out
 exact ⟨rfl, s', F', h1, Step.uR (o := .cells #[.int .i64 3, .int .i64 0, .int .i64 0] 33) (by rw [← HW1.out] at h2; exact ⟨h2.os, h2.tape, h2.output, h2.size, h2.tm, h2.new⟩)⟩
end Go.Proofs.YtlnlichdidobpaaGreatDoor.Turns
namespace Go.Proofs.YtlnlichdidobpaaGreatDoor.Turns
set_option maxRecDepth 100000
set_option maxHeartbeats 4000000
set_option linter.unusedSimpArgs false
set_option linter.unusedVariables false
open Go Go.Proofs Go.Shelf Go.RowKit
abbrev RO := Int × Int × Int
def Rel (L : QL) (o : RO) (L' : QL) : Prop :=
 ((o.1 = 1 ∨ o.1 = 2) ∧ ∃ lev : Nat, lev < 32 ∧ o.2.2 = lev ∧ (∀ l, (o.2.1, l) ∉ L) ∧ (lv L lev).length ≤ 1000000 ∧ lv L' lev = (if decide (o.1 = 2) = true then o.2.1 :: lv L lev else lv L lev ++ [o.2.1]) ∧ (∀ i, i < 32 → i ≠ lev → lv L' i = lv L i) ∧ (∀ p, p ∈ L' ↔ p = (o.2.1, (lev : Int)) ∨ p ∈ L)) ∨
 (o = (3, 0, 0) ∧ ∃ (lev : Nat) (id : Int) (r : List Int), lev < 32 ∧ lv L lev = id :: r ∧ (∀ i, i < 32 → lev < i → lv L i = []) ∧ lv L' lev = r ∧ (∀ i, i < 32 → i ≠ lev → lv L' i = lv L i) ∧ (∀ p, p ∈ L' ↔ p ∈ L ∧ p ≠ (id, (lev : Int))))
def eA (L : QL) : List Int := ((List.range 32).map fun j => lv L (31 - j)).flatten
theorem eY {B : Nat} {e : TypeId} {v : Value} {n : Nat} {xs : List Value} {w w' : World} (h : w.ownsRow B e 1 v n xs) (hb : ∀ g, v.ownBlock = some g → w'.heap[g]? = w.heap[g]?) : w'.ownsRow B e 1 v n xs := by
 refine ⟨h.1, ?_⟩
 rcases h.2 with hn | ⟨g, cap, cur, rfl, h1, h2, h3⟩
 ·exact .inl hn
 ·exact .inr ⟨g, cap, cur, rfl, h1, (hb g rfl).trans h2, h3⟩
structure PI (w : World) (B q m : Nat) (wr : World) (L : QL) (s : Int) (F : Nat → Value) (k j : Nat) (v6 v7 : Value) : Prop where
 qa : ni B q m wr L s F
 r6 : ∃ xs, wr.ownsRow B 25 1 v6 k xs
 r7 : ∃ n7 xs, n7 ≤ j ∧ wr.ownsRow B 3 1 v7 n7 xs
 a6 : ∀ g, v6.ownBlock = some g → g ≠ q ∧ g ≠ m ∧ v7.ownBlock ≠ some g ∧ ∀ i, i < 32 → (F i).ownBlock ≠ some g
 a7 : ∀ g, v7.ownBlock = some g → g ≠ q ∧ g ≠ m ∧ ∀ i, i < 32 → (F i).ownBlock ≠ some g
 bl : Below B w wr
 bs : B ≤ wr.heap.size
section
variable {w : World} {B q m : Nat} {wr w2 : World} {L L' : QL} {s s' : Int} {F F' : Nat → Value} {k j : Nat} {v6 v7 : Value}
theorem ni.keep (h : ni B q m wr L s F) (hk : ∀ k, k < wr.heap.size → w2.heap[k]? = wr.heap[k]? ∨ (k ≠ q ∧ k ≠ m ∧ ∀ i, i < 32 → (F i).ownBlock ≠ some k)) : ni B q m w2 L s F := by
 obtain ⟨E, clock, hmb, hE, hEL⟩ := h.map
 have hml : m < wr.heap.size := (Array.getElem?_eq_some_iff.1 hmb).1
 refine ⟨((hk q h.lt).resolve_right (fun hx => hx.1 rfl)).trans h.tm, h.s0, h.s1, h.bits, fun i hi => lh (h.rows i hi) fun g hg => ?_, h.apart, h.nj, ⟨E, clock, ((hk m hml).resolve_right (fun hx => hx.2.1 rfl)).trans hmb, hE, hEL⟩, h.nq, h.nm, h.qm⟩
 exact (hk g (jN (h.rows i hi) hg)).resolve_right (fun hx => hx.2.2 i hi hg)
theorem PI.alloc (h : PI w B q m wr L s F k j v6 v7) (o : Obj) : PI w B q m (wr.alloc o) L s F k j v6 v7 := by
 have hk : ∀ k, k < wr.heap.size → (wr.alloc o).heap[k]? = wr.heap[k]? := fun k hk => heap_alloc_old wr o hk
 obtain ⟨xs, h6⟩ := h.r6
 obtain ⟨n7, ys, hn, h7⟩ := h.r7
 exact ⟨h.qa.keep (fun k hk' => .inl (hk k hk')), ⟨xs, eY h6 fun g hg => hk g (h6.lt g hg).2⟩, ⟨n7, ys, hn, eY h7 fun g hg => hk g (h7.lt g hg).2⟩, h.a6, h.a7, h.bl.alloc h.bs o, Nat.le_trans h.bs (by simp)⟩
theorem PI.step (h : PI w B q m wr L s F k j v6 v7) (hq : ni B q m w2 L' s' F') (hs : Step wr w2 q m F F') : PI w B q m w2 L' s' F' k j v6 v7 := by
 obtain ⟨xs, h6⟩ := h.r6
 obtain ⟨n7, ys, hn, h7⟩ := h.r7
 refine ⟨hq, ⟨xs, eY h6 fun g hg => ?_⟩, ⟨n7, ys, hn, eY h7 fun g hg => ?_⟩, fun g hg => ?_, fun g hg => ?_, ⟨hs.os.trans h.bl.os, hs.tape.trans h.bl.tape, hs.output.trans h.bl.output, Nat.le_trans h.bl.size hs.size, fun k hk => ?_⟩, Nat.le_trans h.bs hs.size⟩
 ·have a := h.a6 g hg
  exact hs.tm g (h6.lt g hg).2 a.1 a.2.1 a.2.2.2
 ·have a := h.a7 g hg
  exact hs.tm g (h7.lt g hg).2 a.1 a.2.1 a.2.2
 ·have a := h.a6 g hg
  refine ⟨a.1, a.2.1, a.2.2.1, fun i hi hx => ?_⟩
  rcases hs.new i hi g hx with ⟨j, hj, hy⟩ | hy
  ·exact a.2.2.2 j hj hy
  ·have := (h6.lt g hg).2
   omega
 ·have a := h.a7 g hg
  refine ⟨a.1, a.2.1, fun i hi hx => ?_⟩
  rcases hs.new i hi g hx with ⟨j, hj, hy⟩ | hy
  ·exact a.2.2 j hj hy
  ·have := (h7.lt g hg).2
   omega
 ·rw [hs.tm k (Nat.lt_of_lt_of_le hk h.bs) (fun e => by have := h.qa.nq; omega) (fun e => by have := h.qa.nm; omega) (fun i hi hx => by have := (h.qa.rows i hi).lt k hx; omega)]
  exact h.bl.block k hk
theorem PI.UP (h : PI w B q m wr L s F k j v6 v7) {v' : Value} {xs : List Value} (hg : wr.grownBy w2 v6.ownBlock) (hown : w2.ownsRow B 25 1 v' (k + 1) xs) (hat : v'.ownBlock = v6.ownBlock ∨ ∃ g, v'.ownBlock = some g ∧ wr.heap.size ≤ g) : PI w B q m w2 L s F (k + 1) j v' v7 := by
 obtain ⟨ys, h6⟩ := h.r6
 obtain ⟨n7, zs, hn, h7⟩ := h.r7
 have hlt : q < wr.heap.size := h.qa.lt
 obtain ⟨E, clock, hmb, -, -⟩ := h.qa.map
 have hml : m < wr.heap.size := (Array.getElem?_eq_some_iff.1 hmb).1
 refine ⟨h.qa.keep fun k hk => ?_, ⟨xs, hown⟩, ⟨n7, zs, hn, eY h7 fun g hg' => ?_⟩, fun g hg' => ?_, h.a7, h.bl.grown hg h.bs (fun k hk => (h6.lt k hk).1), Nat.le_trans h.bs hg.size⟩
 ·by_cases e : some k = v6.ownBlock
  ·have a := h.a6 k e.symm
   exact .inr ⟨a.1, a.2.1, a.2.2.2⟩
  ·exact .inl (hg.block k hk e)
 ·exact hg.block g (h7.lt g hg').2 (fun e => (h.a6 g e.symm).2.2.1 hg')
 ·rcases hat with ha | ⟨g', ha, hge⟩
  ·exact h.a6 g (ha.symm.trans hg')
  ·rw [ha] at hg'
   injection hg' with hg'
   subst hg'
   exact ⟨by omega, by omega, fun hx => by have := (h7.lt _ hx).2; omega, fun i hi hx => by have := jN (h.qa.rows i hi) hx; omega⟩
theorem PI.Vo (h : PI w B q m wr L s F k j v6 v7) {v' : Value} {n7 : Nat} {xs : List Value} (hn7 : n7 ≤ j + 1) (hg : wr.grownBy w2 v7.ownBlock) (hown : w2.ownsRow B 3 1 v' n7 xs) (hat : v'.ownBlock = v7.ownBlock ∨ ∃ g, v'.ownBlock = some g ∧ wr.heap.size ≤ g) : PI w B q m w2 L s F k (j + 1) v6 v' := by
 obtain ⟨ys, h6⟩ := h.r6
 obtain ⟨n0, zs, hn, h7⟩ := h.r7
 have hlt : q < wr.heap.size := h.qa.lt
 obtain ⟨E, clock, hmb, -, -⟩ := h.qa.map
 have hml : m < wr.heap.size := (Array.getElem?_eq_some_iff.1 hmb).1
 refine ⟨h.qa.keep fun k hk => ?_, ⟨ys, eY h6 fun g hg' => ?_⟩, ⟨n7, xs, hn7, hown⟩, fun g hg' => ?_, fun g hg' => ?_, h.bl.grown hg h.bs (fun k hk => (h7.lt k hk).1), Nat.le_trans h.bs hg.size⟩
 ·by_cases e : some k = v7.ownBlock
  ·have a := h.a7 k e.symm
   exact .inr ⟨a.1, a.2.1, a.2.2⟩
  ·exact .inl (hg.block k hk e)
 ·exact hg.block g (h6.lt g hg').2 (fun e => (h.a6 g hg').2.2.1 e.symm)
 ·have a := h.a6 g hg'
  refine ⟨a.1, a.2.1, fun hx => ?_, a.2.2.2⟩
  rcases hat with ha | ⟨g', ha, hge⟩
  ·exact a.2.2.1 (ha.symm.trans hx)
  ·rw [ha] at hx
   injection hx with hx
   have := (h6.lt g hg').2
   omega
 ·rcases hat with ha | ⟨g', ha, hge⟩
  ·exact h.a7 g (ha.symm.trans hg')
  ·rw [ha] at hg'
   injection hg' with hg'
   subst hg'
   exact ⟨by omega, by omega, fun i hi hx => by have := jN (h.qa.rows i hi) hx; omega⟩
end
theorem Mz (w : World) : PI w w.heap.size (w.heap.size + 1) w.heap.size ((w.alloc (.map #[] 0)).alloc (.cells (dz 0 (fun _ => .slice none 0 0) w.heap.size).toArray 56)) [] 0 (fun _ => .slice none 0 0) 0 0 (.slice none 0 0) (.slice none 0 0) := by
 have hs : (w.alloc (.map #[] 0)).heap.size = w.heap.size + 1 := by simp
 refine ⟨⟨?_, by decide, by decide, fun i hi => ?_, fun i hi => World.ownsRow_nil _ _ _ _, fun i j _ _ _ g hg => (by cases hg), fun i hi => ⟨by simp [Value.ownBlock], by simp [Value.ownBlock]⟩, ⟨[], 0, ?_, ⟨by simp, fun x hx => (by cases hx), by simp⟩, fun p => ⟨fun hp => (by cases hp), fun ⟨b, hb⟩ => (by cases hb)⟩⟩, by omega, by omega, by omega⟩, ⟨[], World.ownsRow_nil _ _ _ _⟩, ⟨0, [], by omega, World.ownsRow_nil _ _ _ _⟩, fun g hg => (by cases hg), fun g hg => (by cases hg), ?_, by simp; omega⟩
 ·rw [← hs]
  exact iM _ _
 ·simp [lv]
 ·rw [heap_alloc_old (w.alloc (.map #[] 0)) _ (by rw [hs]; omega)]
  exact iM w _
 ·exact ((Below.refl _ w).alloc (Nat.le_refl _) _).alloc (by simp) _
theorem KP {w : World} (base : Nat) (t ty : TypeId) (i : TypeInfo) (ht : Tryz.prog.underlying t = some (.slice 3)) (hi : Tryz.prog.info? 3 = some i) (v : Value) (n c : Nat) (xs : List Value) (hown : w.ownsRow base 3 1 v n xs) :
  (Builtin.append_ #[t, t] ty #[v, .slice none 0 c]).run Tryz.prog w = .ok v w := by
 rcases hown.2 with ⟨rfl, rfl⟩ | ⟨g, cap, cur, rfl, _, _, hnc, _⟩
 ·simp [Builtin.append_, run_underlying ht, sizeOf, typeInfo, hi, Builtin.lenOf, Builtin.firstCells]
 ·simp [Builtin.append_, run_underlying ht, sizeOf, typeInfo, hi, Builtin.lenOf, Builtin.firstCells, hnc, storeCells]
theorem LR {w : World} {ops : Array Oper} {rest : List Oper} {o : Oper} {a : Act} {Q : Exit → Act → World → Prop} (hgd : o.guard = none) (s x : Operand) (t : TypeId)
  (ho : o.op = .call { callee := .builtin .append, args := #[s, x], argTypes := #[t, t] })
  (base : Nat) (i : TypeInfo) (ht : Tryz.prog.underlying t = some (.slice 3)) (hi : Tryz.prog.info? 3 = some i) (hz : i.zero = some (.int .i64 0))
  (hsize : i.size = 1) (hby : i.bytes = 8)
  (v : Value) (n : Nat) (xs : List Value) (hs : a.eval s = v) (hown : w.ownsRow base 3 1 v n xs)
  (y : Value) (B2 : Nat) (ys : List Int) (hx : a.eval x = y) (hy : w.ownsRow B2 3 1 y ys.length (bq ys))
  (h63 : n + ys.length ≤ 1000000000) (hbase : base ≤ w.heap.size)
  (h : ∀ v' w', w'.ownsRow base 3 1 v' (n + ys.length) (xs ++ bq ys) → w.grownBy w' v.ownBlock → (v'.ownBlock = v.ownBlock ∨ ∃ g, v'.ownBlock = some g ∧ w.heap.size ≤ g) → wpList Tryz.prog ops Q rest (a.put o.dst v') w') : wpList Tryz.prog ops Q (o :: rest) a w := by
 rcases hy.2 with ⟨rfl, h0⟩ | ⟨g, cap, cur0, rfl, -, -, -, -, -, -⟩
 ·have hys : ys = [] := List.eq_nil_of_length_eq_zero h0
  subst hys
  refine wpList_plain hgd fun K hK => ?_
  have hrun := KP (w := w) base t o.type i ht hi v n 0 xs hown
  unfold Oper.wp
  simp [execOp, ho, resolve, invoke, builtin, hs, hx, hrun, Result.andThen]
  exact hK _ _ (h v w (by simpa [bq] using hown) ⟨rfl, rfl, rfl, Nat.le_refl _, fun _ _ _ => rfl⟩ (.inl rfl))
 ·obtain ⟨cur, -, hbg, hg, hnc, hcm, hcs, hget⟩ := jt hy
  exact wpList_append_own_at w hgd s x t ho base 3 i (.int .i64 0) 1 8 ht hi hz hsize hby rfl (by decide) v n xs hs hown ⟨g, 0, none⟩ ys.length cap (bq ys) hx (by rw [dC, Nat.mul_one]) (fun j u hj => by
   rw [oY, Option.map_eq_some_iff] at hj
   obtain ⟨z, hz, rfl⟩ := hj
   rw [Addr.add_lit, Nat.zero_add]
   exact aQ hg (hget j z hz)) iw (by unfold maxLen; omega) (by omega) hbase (fun v' w' h2 h3 _ h5 => h v' w' h2 h3 (h5.imp _root_.id fun ha => ⟨_, ha, Nat.le_refl _⟩))
theorem bV {W : World} {g j : Nat} {v : Value} (h0 : W.cell? ⟨g, j, none⟩ = some v) : g < W.heap.size := World.block_lt_of_cell? W ⟨g, j, none⟩ h0
theorem gm (W : World) (o : Obj) {g j : Nat} (h : g < W.heap.size) : (W.alloc o).cell? ⟨g, j, none⟩ = W.cell? ⟨g, j, none⟩ := World.cell?_of_block (w := W) (heap_alloc_old W o h)
theorem Ak {w : World} {B q m : Nat} {wr w2 : World} {L L' : QL} {s s' : Int} {F F' : Nat → Value} {k j : Nat} {v6 v7 a b c : Value} (h : PI w B q m wr L s F k j v6 v7) (hq : ni B q m w2 L' s' F') (hs : Step (wr.alloc (.cells #[a, b, c] 33)) w2 q m F F') :
  PI w B q m w2 L' s' F' k j v6 v7 ∧ w2.cell? ⟨wr.heap.size, 0, none⟩ = some a := by
 refine ⟨(h.alloc _).step hq hs, ?_⟩
 have hlt : q < wr.heap.size := h.qa.lt
 obtain ⟨E, clock, hmb, -, -⟩ := h.qa.map
 have hml : m < wr.heap.size := (Array.getElem?_eq_some_iff.1 hmb).1
 have := (hs.tm wr.heap.size (by simp) (by omega) (by omega) (fun i hi hx => by have := jN (h.qa.rows i hi) hx; omega)).trans (iM wr _)
 exact aQ this rfl
def pre (L : QL) (k : Nat) : List Int := ((List.range k).map fun j => lv L (31 - j)).flatten
theorem vG (L : QL) (k : Nat) : pre L (k + 1) = pre L k ++ lv L (31 - k) := by
 unfold pre
 rw [List.range_succ, List.map_append, List.flatten_append]
 simp
theorem En (L : QL) (h : ∀ i, i < 32 → (lv L i).length ≤ 1000000) : ∀ k, k ≤ 32 → (pre L k).length ≤ k * 1000000
 | 0, _ => Nat.zero_le _
 | k + 1, hk => by
  have h1 := En L h k (by omega)
  have h2 := h (31 - k) (by omega)
  rw [vG, List.length_append]
  omega
theorem Fz (ops : List RO) (Lf : Nat → QL) (h0 : Lf 0 = []) (hR : ∀ (i : Nat) o, ops[i]? = some o → Rel (Lf i) o (Lf (i + 1))) (A : Option Addr) (c : Nat) (w : World) (hlen : ops.length ≤ 1000000) (hc : ops.length ≤ c) (hLn : ∀ i, i < 32 → (lv (Lf ops.length) i).length ≤ 1000000)
  (hC : ∀ (i : Nat) o, ops[i]? = some o → ∃ b of, A = some ⟨b, of, none⟩ ∧ b < w.heap.size ∧ w.cell? ⟨b, of + i * 3, none⟩ = some (.int .i64 o.1) ∧ w.cell? ⟨b, of + i * 3 + 1, none⟩ = some (.int .i64 o.2.1) ∧ w.cell? ⟨b, of + i * 3 + 2, none⟩ = some (.int .i64 o.2.2)) :
  Calls Tryz.prog 6 #[.slice A ops.length c] w fun e w' => ∃ v6 v7 v8, e = .returned (.tuple #[v6, v7, v8]) ∧ w'.ownsRow w.heap.size 3 1 v8 (eA (Lf ops.length)).length (bq (eA (Lf ops.length))) ∧ Below w.heap.size w w' := by
 have hmk := run_makeMap (P := Tryz.prog) 52 w
 go_enter Tryz.func6, Tryz.ntmps6
 have hq0 := Mz w
 obtain ⟨i0, hi, hz0, hz1, hz2⟩ := info_parts (show (Tryz.prog.info? 3).map (fun i => (i.zero, i.size, i.bytes)) = some (some (.int .i64 0), 1, 8) by kernel_rfl)
 obtain ⟨i5, hi5, hz50, hz51, hz52⟩ := info_parts (show (Tryz.prog.info? 25).map (fun i => (i.zero, i.size, i.bytes)) = some (some (.int .i64 0), 1, 8) by kernel_rfl)
 go_wp2
 go_loopw [6, 7, 19] (fun v6 v7 v19 wr => ∃ (k j : Nat) (s : Int) (F : Nat → Value), k ≤ ops.length ∧ j ≤ k ∧ v19 = .int .i64 k ∧ PI w w.heap.size (w.heap.size + 1) w.heap.size wr (Lf k) s F k j v6 v7) (fun _ _ v19 _ => ops.length - (intOf v19).toNat)
 case atStart => exact ⟨0, 0, 0, _, Nat.zero_le _, Nat.le_refl _, rfl, by rw [h0]; exact hq0⟩
 case round =>
  obtain ⟨k, j, s, F, hk, hj, rfl, hI⟩ := hrel
  by_cases hkn : k < ops.length
  ·obtain ⟨o, ho⟩ : ∃ o, ops[k]? = some o := ⟨_, List.getElem?_eq_getElem hkn⟩
   obtain ⟨b, of, rfl, hb, c0, c1, c2⟩ := hC k o ho
   have c0 : wr.cell? ⟨b, of + k * 3, none⟩ = some (.int .i64 o.1) := (hI.bl.cell (p := ⟨b, of + k * 3, none⟩) hb).trans c0
   have c1 : wr.cell? ⟨b, of + k * 3 + 1, none⟩ = some (.int .i64 o.2.1) := (hI.bl.cell (p := ⟨b, of + k * 3 + 1, none⟩) hb).trans c1
   have c2 : wr.cell? ⟨b, of + k * 3 + 2, none⟩ = some (.int .i64 o.2.2) := (hI.bl.cell (p := ⟨b, of + k * 3 + 2, none⟩) hb).trans c2
   have hki : (k : Int) < (ops.length : Int) := by omega
   have hA := hI.alloc (.cells #[.int .i64 o.1, .int .i64 o.2.1, .int .i64 o.2.2] 33)
   obtain ⟨xs6, h6⟩ := hI.r6
   obtain ⟨n7, xs7, hn7, h7⟩ := hI.r7
   have hv6 : u6.ownBlock ≠ some wr.heap.size := fun e => by
    have := (h6.lt _ e).2
    omega
   rcases hR k o ho with ⟨hkd, lev, hl, e2, hid, hn, q1, q2, q3⟩ | ⟨rfl, lev, id, r, hl, hr, htop, q1, q2, q3⟩
   ·obtain ⟨o1, o2, o3⟩ := o
    have e2 : o3 = (lev : Int) := e2
    subst e2
    have hkd : o1 = 1 ∨ o1 = 2 := hkd
    have hk3 : ¬ o1 = 3 := by omega
    have hdo := (R1 hA.qa hA.bs hkd hl hid hn q1 q2 q3).mono (R' := fun e w' => e = .returned (.tuple #[.int .i64 0, .int .i64 0]) ∧ Hid (∃ s' F', PI w w.heap.size (w.heap.size + 1) w.heap.size w' (Lf (k + 1)) s' F' k j u6 u7 ∧ w'.cell? ⟨wr.heap.size, 0, none⟩ = some (.int .i64 o1))) (fun e w' hh => ⟨hh.1, Lib.hid (by
     obtain ⟨s', F', g1, g2⟩ := hh.2
     have := Ak hI g1 g2
     exact ⟨s', F', this.1, this.2⟩)⟩)
    clear q1 q2 q3 hid hn hA h6 h7
    go_wp2_with (go_at_call 14; refine hdo.mono ?_; rintro e w2 ⟨rfl, hh⟩; refine Hid.out ?_)
    refine Lib.hid ?_
    obtain ⟨s', F', hI2, d0⟩ := hh.out
    obtain ⟨xs6', h6'⟩ := hI2.r6
    go_wp2_with (at_builtin; refine wpList_append_own_at _ rfl _ _ 34 rfl w.heap.size 25 i5 (.int .i64 0) 1 8 Tryz.underlying34 hi5 hz50 hz51 hz52 rfl (by decide) _ _ _ rfl (h6'.alloc _) ⟨w2.heap.size, 0, none⟩ 1 1 [.int .i64 0] rfl rfl ?c1 ?c2 ?c3 ?c4 ?c5 ?_)
    case c1 =>
     intro j u hj
     match j, hj with
     | 0, hj => simp at hj; subst hj; simp [Addr.add]
    case c2 => intro u hu; simp at hu; subst hu; rfl
    case c3 => unfold maxLen; omega
    case c4 => omega
    case c5 => have := hI2.bs; simp; omega
    intro v' w3 hown' hgrow _ hat
    have hI3 := (hI2.alloc (.cells #[.int .i64 0] 25)).UP hgrow hown' (hat.imp _root_.id fun ha => ⟨_, ha, by simp⟩)
    have hwlt : wr.heap.size < w2.heap.size := bV d0
    have e0 : w3.cell? ⟨wr.heap.size, 0, none⟩ = some (.int .i64 o1) := hgrow.cell (a := ⟨wr.heap.size, 0, none⟩) ((gm w2 _ hwlt).trans d0) (fun e => hv6 e.symm)
    obtain ⟨ao, n', cap, rfl⟩ : ∃ ao n' cap, v' = .slice ao n' cap := by
     rcases hown'.2 with ⟨hv, _⟩ | ⟨g, cap, cur, hv, _⟩
     ·exact ⟨_, _, _, hv⟩
     ·exact ⟨_, _, _, hv⟩
    have HI3 := Lib.hid hI3
    clear hI3 hgrow hown' hat h6' hI2 hI hh hdo
    go_wp2
    refine ⟨⟨k + 1, j, s', F', by omega, by omega, rfl, HI3.out⟩, by simp [intOf]; omega⟩
   ·have hdo := (NV hA.qa hA.bs hl hr htop q1 q2 q3).mono (R' := fun e w' => e = .returned (.tuple #[.int .i64 id, .int .i64 0]) ∧ Hid (∃ s' F', PI w w.heap.size (w.heap.size + 1) w.heap.size w' (Lf (k + 1)) s' F' k j u6 u7 ∧ w'.cell? ⟨wr.heap.size, 0, none⟩ = some (.int .i64 3))) (fun e w' hh => ⟨hh.1, Lib.hid (by
     obtain ⟨s', F', g1, g2⟩ := hh.2
     have := Ak hI g1 g2
     exact ⟨s', F', this.1, this.2⟩)⟩)
    clear q1 q2 q3 hA h6 h7 hr htop
    go_wp2_with (go_at_call 14; refine hdo.mono ?_; rintro e w2 ⟨rfl, hh⟩; refine Hid.out ?_)
    refine Lib.hid ?_
    obtain ⟨s', F', hI2, d0⟩ := hh.out
    obtain ⟨xs6', h6'⟩ := hI2.r6
    go_wp2_with (at_builtin; refine wpList_append_own_at _ rfl _ _ 34 rfl w.heap.size 25 i5 (.int .i64 0) 1 8 Tryz.underlying34 hi5 hz50 hz51 hz52 rfl (by decide) _ _ _ rfl (h6'.alloc _) ⟨w2.heap.size, 0, none⟩ 1 1 [.int .i64 0] rfl rfl ?c1 ?c2 ?c3 ?c4 ?c5 ?_)
    case c1 =>
     intro j u hj
     match j, hj with
     | 0, hj => simp at hj; subst hj; simp [Addr.add]
    case c2 => intro u hu; simp at hu; subst hu; rfl
    case c3 => unfold maxLen; omega
    case c4 => omega
    case c5 => have := hI2.bs; simp; omega
    intro v' w3 hown' hgrow _ hat
    have hI3 := (hI2.alloc (.cells #[.int .i64 0] 25)).UP hgrow hown' (hat.imp _root_.id fun ha => ⟨_, ha, by simp⟩)
    have hwlt : wr.heap.size < w2.heap.size := bV d0
    have e0 : w3.cell? ⟨wr.heap.size, 0, none⟩ = some (.int .i64 3) := hgrow.cell (a := ⟨wr.heap.size, 0, none⟩) ((gm w2 _ hwlt).trans d0) (fun e => hv6 e.symm)
    obtain ⟨ao, n', cap, rfl⟩ : ∃ ao n' cap, v' = .slice ao n' cap := by
     rcases hown'.2 with ⟨hv, _⟩ | ⟨g, cap, cur, hv, _⟩
     ·exact ⟨_, _, _, hv⟩
     ·exact ⟨_, _, _, hv⟩
    have HI3 := Lib.hid hI3
    clear hI3 hgrow hown' hat h6' hI2 hI hh hdo
    obtain ⟨n8, xs8, hn8, h8⟩ := HI3.out.r7
    have hmore : (w3.alloc (.cells #[.int .i64 id] 3)).ownsRow w.heap.size 3 1 u7 n8 xs8 := h8.alloc _
    go_wp2_with (at_builtin; refine wpList_append_own_at _ rfl _ _ 28 rfl w.heap.size 3 i0 (.int .i64 0) 1 8 Tryz.underlying28 hi hz0 hz1 hz2 rfl (by decide) _ _ _ rfl hmore ⟨w3.heap.size, 0, none⟩ 1 1 [.int .i64 id] rfl rfl ?d1 ?d2 ?d3 ?d4 ?d5 ?_)
    case d1 =>
     intro j u hj
     match j, hj with
     | 0, hj => simp at hj; subst hj; simp [Addr.add]
    case d2 => intro u hu; simp at hu; subst hu; rfl
    case d3 => unfold maxLen; omega
    case d4 => omega
    case d5 => have := HI3.out.bs; simp; omega
    intro v2 w4 hown2 hgrow2 _ hat2
    have hI4 := (HI3.out.alloc (.cells #[.int .i64 id] 3)).Vo (by omega) hgrow2 hown2 (hat2.imp _root_.id fun ha => ⟨_, ha, by simp⟩)
    obtain ⟨ao2, n2', cap2, rfl⟩ : ∃ ao n' cap, v2 = .slice ao n' cap := by
     rcases hown2.2 with ⟨hv, _⟩ | ⟨g, cap, cur, hv, _⟩
     ·exact ⟨_, _, _, hv⟩
     ·exact ⟨_, _, _, hv⟩
    have HI4 := Lib.hid hI4
    clear hI4 hgrow2 hown2 hat2 hmore h8
    go_wp2
    refine ⟨⟨k + 1, j + 1, s', F', by omega, by omega, rfl, HI4.out⟩, by simp [intOf]; omega⟩
  ·obtain rfl : k = ops.length := by omega
   have HI := Lib.hid hI
   clear hI
   go_wp2
   obtain ⟨L, hL⟩ : ∃ L, Aside (Lf ops.length = L) := ⟨_, rfl⟩
   rw [hL.out] at hLn
   have hI0 := HI.out
   rw [hL.out] at hI0
   have HI0 := Lib.hid hI0
   clear hI0 HI
   go_loopw [8, 13] (fun v8 v13 wx => ∃ k : Nat, k ≤ 32 ∧ v13 = .int .i64 (31 - (k : Int)) ∧ ni w.heap.size (w.heap.size + 1) w.heap.size wx L s F ∧ wx.ownsRow w.heap.size 3 1 v8 (pre L k).length (bq (pre L k)) ∧ (∀ g, v8.ownBlock = some g → g ≠ w.heap.size + 1 ∧ g ≠ w.heap.size ∧ ∀ i, i < 32 → (F i).ownBlock ≠ some g) ∧ Below w.heap.size w wx ∧ w.heap.size ≤ wx.heap.size) (fun _ v13 _ => (intOf v13 + 1).toNat)
   case atStart => exact ⟨0, by omega, rfl, HI0.out.qa, World.ownsRow_nil _ _ _ _, fun g hg => (by cases hg), HI0.out.bl, HI0.out.bs⟩
   case round =>
    obtain ⟨k, hk, rfl, hQ, hown, hap, hbl, hbs⟩ := hrel
    by_cases hk32 : k < 32
    ·obtain ⟨lev, hlev⟩ : ∃ lev : Nat, lev = 31 - k := ⟨_, rfl⟩
     have e31 : (31 : Int) - (k : Int) = (lev : Int) := by omega
     have hll : lev < 32 := by omega
     rw [e31]
     have HLV := Lib.hid (And.intro hlev e31)
     clear hlev e31
     have cl := hQ.cl hll
     have hli : (lev : Int) < 32 := by omega
     have hl0 : (0 : Int) ≤ (lev : Int) := by omega
     have hrowL := hQ.rows lev hll
     have hple : (pre L k).length ≤ 32000000 := Nat.le_trans (En L hLn k (by omega)) (by omega)
     have hlv := hLn lev hll
     go_wp2_with (at_builtin; refine LR rfl _ _ 28 rfl w.heap.size i0 Tryz.underlying28 hi hz0 hz1 hz2 _ _ _ rfl hown _ _ (lv L lev) rfl hrowL ?c1 hbs ?_)
     case c1 => omega
     intro v' w3 hown' hgrow hat
     obtain ⟨ao, n', cap, rfl⟩ : ∃ ao n' cap, v' = .slice ao n' cap := by
      rcases hown'.2 with ⟨hv, _⟩ | ⟨g, cap, cur, hv, _⟩
      ·exact ⟨_, _, _, hv⟩
      ·exact ⟨_, _, _, hv⟩
     have hKeep : ni w.heap.size (w.heap.size + 1) w.heap.size w3 L s F ∧ w3.ownsRow w.heap.size 3 1 (.slice ao n' cap) (pre L (k + 1)).length (bq (pre L (k + 1))) ∧ (∀ g, (Value.slice ao n' cap).ownBlock = some g → g ≠ w.heap.size + 1 ∧ g ≠ w.heap.size ∧ ∀ i, i < 32 → (F i).ownBlock ≠ some g) ∧ Below w.heap.size w w3 ∧ w.heap.size ≤ w3.heap.size := by
      refine ⟨hQ.keep fun k hk => ?_, ?_, fun g hg => ?_, hbl.grown hgrow hbs (fun k hk => (hown.lt k hk).1), Nat.le_trans hbs hgrow.size⟩
      ·by_cases e : some k = u8.ownBlock
       ·exact .inr (hap k e.symm)
       ·exact .inl (hgrow.block k hk e)
      ·rw [vG, ← HLV.out.1, List.length_append]
       have : bq (pre L k ++ lv L lev) = bq (pre L k) ++ bq (lv L lev) := by simp [bq]
       rw [this]
       exact hown'
      ·rcases hat with ha | ⟨g', ha, hge⟩
       ·exact hap g (ha.symm.trans hg)
       ·rw [ha] at hg
        injection hg with hg
        subst hg
        have := hQ.lt
        exact ⟨by omega, by omega, fun i hi hx => by have := jN (hQ.rows i hi) hx; omega⟩
     have HK := Lib.hid hKeep
     have e32 : (lev : Int) - 1 = 31 - ((k + 1 : Nat) : Int) := by have := HLV.out.2; omega
     have HE := Lib.hid e32
     have hms : ((lev : Int) - 1 + 1).toNat < ((lev : Int) + 1).toNat := by omega
     have HM := Lib.hid hms
     have hwr : IntKind.i64.wrap ((lev : Int) - 1) = (lev : Int) - 1 := by
      rw [IntKind.wrap_i64]
      omega
     clear hKeep e32 hms hown' hgrow hat hQ hown hap hbl cl hrowL
     go_wp2
     obtain ⟨k1, k2, k3, k4, k5⟩ := HK.out
     exact ⟨⟨k + 1, by omega, by rw [HE.out], k1, k2, k3, k4, k5⟩, by first | exact HM.out | simpa [intOf] using HM.out⟩
    ·obtain rfl : k = 32 := by omega
     have HO := Lib.hid (And.intro hown hbl)
     clear hown hbl hQ hap hbs
     go_wp2
     go_ret3
     have hfin : pre L 32 = eA L := rfl
     refine ⟨u6, u7, u8, rfl, ?_, HO.out.2⟩
     rw [hL.out, ← hfin]
     exact HO.out.1
end Go.Proofs.YtlnlichdidobpaaGreatDoor.Turns
namespace Go.Proofs.YtlnlichdidobpaaGreatDoor.Turns
set_option maxRecDepth 100000
set_option maxHeartbeats 4000000
set_option linter.unusedSimpArgs false
set_option linter.unusedVariables false
open Go Go.Proofs Go.RowKit
theorem qU (w : World) (x y : Value) (t : TypeId) : ∀ j u, [x, y][j]? = some u → (w.alloc (.cells #[x, y] t)).cell? (⟨w.heap.size, j, none⟩ : Addr) = some u := by
 intro j u hj
 have hh := World.alloc_heap_new w (.cells #[x, y] t)
 have e : (w.alloc (.cells #[x, y] t)).cell? ⟨w.heap.size, j, none⟩ = #[x, y][j]? := by
  unfold World.cell?
  rw [show (⟨w.heap.size, j, none⟩ : Addr).block = w.heap.size from rfl, hh]
  rfl
 rw [e]
 simpa using hj
theorem FY (x : Int) (W : World) : Calls Tryz.prog 21 #[.int .i64 x] W fun e w' => e = .returned (.bool false) ∧ w' = W := by
 go_enter Tryz.func21, Tryz.ntmps21
 go_wp2
 go_ret
 exact ⟨by simp, rfl⟩
def nM (x y : Int) : Int := if x < y then -1 else if y < x then 1 else 0
theorem Gd (x y : Int) (W : World) : Calls Tryz.prog 12 #[.int .i64 x, .int .i64 y] W fun e w' => e = .returned (.int .i64 (nM x y)) ∧ w' = W := by
 go_enter Tryz.func12, Tryz.ntmps12
 go_wp2_with (go_at_call 21; refine (FY _ _).mono ?_; rintro e w' ⟨rfl, rfl⟩)
 all_goals
  go_ret
  refine ⟨?_, rfl⟩
  unfold nM
  first
   | (rw [if_pos (by omega)]; rfl)
   | (rw [if_neg (by omega), if_pos (by omega)]; rfl)
   | (rw [if_neg (by omega), if_neg (by omega)]; rfl)
theorem Gw (b : Nat) (x y : Int) (W : World) (hx : W.cell? ⟨b, 0, none⟩ = some (.int .i64 x)) (hy : W.cell? ⟨b, 1, none⟩ = some (.int .i64 y)) :
  Calls Tryz.prog 11 #[.slice (some ⟨b, 0, none⟩) 2 2] W fun e w' => e = .returned (.int .i64 (if x = 0 then y else x)) ∧ w' = W := by
 go_enter Tryz.func11, Tryz.ntmps11
 go_wp2
 go_loopw [8] (fun i wr => ∃ k : Nat, k ≤ 2 ∧ i = .int .i64 k ∧ wr = W ∧ (0 < k → x = 0) ∧ (1 < k → y = 0)) (fun i _ => 2 - (intOf i).toNat)
 case atStart => exact ⟨0, by omega, rfl, rfl, by omega, by omega⟩
 case round =>
  obtain ⟨k, hk, rfl, rfl, h1, h2⟩ := hrel
  rcases (show k = 0 ∨ k = 1 ∨ k = 2 by omega) with rfl | rfl | rfl
  ·by_cases hz : x = 0
   ·subst hz
    go_wp2
    go_roundw
    case rel => exact ⟨1, by omega, by simp, by first | rfl | simp, by first | trivial | simp, by first | trivial | omega⟩
    case measure => simp [intOf]
   ·go_wp2
    go_ret
    exact ⟨by first | rfl | simp [hz], rfl⟩
  ·have hx0 := h1 (by omega)
   subst hx0
   by_cases hz : y = 0
   ·subst hz
    go_wp2
    go_roundw
    case rel => exact ⟨2, by omega, by simp, by first | rfl | simp, by first | trivial | simp, by first | trivial | simp⟩
    case measure => simp [intOf]
   ·go_wp2
    go_ret
    exact ⟨by first | rfl | simp, rfl⟩
  ·have hx0 := h1 (by omega)
   have hy0 := h2 (by omega)
   subst hx0; subst hy0
   go_wp2
   go_ret
   exact ⟨by first | rfl | simp, rfl⟩
theorem B8 (a b : Nat) (l1 t1 l2 t2 : Int) (W : World) (a1 : W.cell? ⟨a, 1, none⟩ = some (.int .i64 l1)) (a4 : W.cell? ⟨a, 4, none⟩ = some (.int .i64 t1)) (b1 : W.cell? ⟨b, 1, none⟩ = some (.int .i64 l2)) (b4 : W.cell? ⟨b, 4, none⟩ = some (.int .i64 t2)) :
  Calls Tryz.prog 10 #[.pointer (some ⟨a, 0, none⟩), .pointer (some ⟨b, 0, none⟩)] W fun e w' => e = .returned (.int .i64 (if nM l2 l1 = 0 then nM t1 t2 else nM l2 l1)) ∧ ∃ q os', w' = Sort.grow (W.drewN q) os' := by
 go_enter Tryz.func10, Tryz.ntmps10
 go_wp2
 refine wp_region_still_tail 20 (by kernel_rfl) (by kernel_rfl) ?_
 simp only [List.take_succ_cons, List.take_zero, List.drop_succ_cons, List.drop_zero]
 repeat (first | still_step | still_call (Gd _ _ _))
 refine wpStill_nil ?_
 change wpList _ _ _ _ _ (W.drewN 1)
 have c0 : ((W.drewN 1).alloc (.cells #[.int .i64 (nM l2 l1), .int .i64 (nM t1 t2)] 3)).cell? ⟨W.heap.size, 0, none⟩ = some (.int .i64 (nM l2 l1)) := qU (W.drewN 1) _ _ _ 0 _ rfl
 have c1 : ((W.drewN 1).alloc (.cells #[.int .i64 (nM l2 l1), .int .i64 (nM t1 t2)] 3)).cell? ⟨W.heap.size, 1, none⟩ = some (.int .i64 (nM t1 t2)) := qU (W.drewN 1) _ _ _ 1 _ rfl
 have hcall := Gw W.heap.size (nM l2 l1) (nM t1 t2) _ c0 c1
 clear c0 c1
 go_wp2_with (go_at_call 11; refine hcall.mono ?_; rintro e w' ⟨rfl, rfl⟩)
 all_goals (go_ret; exact ⟨rfl, 1, _, by rw [Sort.alloc_eq_grow]⟩)
end Go.Proofs.YtlnlichdidobpaaGreatDoor.Turns
namespace Go.Proofs.YtlnlichdidobpaaGreatDoor.Turns
set_option maxRecDepth 100000
set_option maxHeartbeats 4000000
set_option linter.unusedSimpArgs false
set_option linter.unusedVariables false
open Go Go.Proofs Go.Shelf Go.RowKit
def Ls (o : RO) : Prop := 0 ≤ o.1 ∧ o.1 ≤ 10000 ∧ 0 ≤ o.2.1 ∧ o.2.1 < 32 ∧ 0 ≤ o.2.2 ∧ o.2.2 ≤ 10000
def s4 (w : World) (A : Option Addr) (l : List RO) : Prop := ∀ (i : Nat) o, l[i]? = some o → ∃ b of, A = some ⟨b, of, none⟩ ∧ b < w.heap.size ∧ w.cell? ⟨b, of + i * 3, none⟩ = some (.int .i64 o.1) ∧ w.cell? ⟨b, of + i * 3 + 1, none⟩ = some (.int .i64 o.2.1) ∧ w.cell? ⟨b, of + i * 3 + 2, none⟩ = some (.int .i64 o.2.2)
theorem s4.below {w w' : World} {A : Option Addr} {l : List RO} (h : s4 w A l) (hb : Below w.heap.size w w') : s4 w' A l := fun i o hi => by
 obtain ⟨b, of, e, hlt, c0, c1, c2⟩ := h i o hi
 exact ⟨b, of, e, Nat.lt_of_lt_of_le hlt hb.size, (hb.cell (p := ⟨b, of + i * 3, none⟩) hlt).trans c0, (hb.cell (p := ⟨b, of + i * 3 + 1, none⟩) hlt).trans c1, (hb.cell (p := ⟨b, of + i * 3 + 2, none⟩) hlt).trans c2⟩
theorem Ck (sl : Int) (l : List RO) (A : Option Addr) (c : Nat) (w : World) (hlen : l.length ≤ 30) (hr : s4 w A l) :
  Calls Tryz.prog 8 #[.int .i64 1, .int .i64 sl, .slice A l.length c] w fun e w' => ∃ r, e = .returned (.int .i64 r) ∧ Below w.heap.size w w' ∧ (r = 0 → 1 ≤ sl ∧ sl ≤ 100 ∧ ∀ o ∈ l, Ls o) := by
 have h64 : ¬ (64 : Int) < (l.length : Int) := by omega
 go_enter Tryz.func8, Tryz.ntmps8
 by_cases h1 : sl < 1
 ·go_wp2
  go_ret
  exact ⟨2, rfl, Below.refl _ _, fun e => by simp at e⟩
 by_cases h2 : (100 : Int) < sl
 ·go_wp2
  go_ret
  exact ⟨2, rfl, Below.refl _ _, fun e => by simp at e⟩
 go_wp2
 go_loopw [30] (fun v wr => ∃ k : Nat, k ≤ l.length ∧ v = .int .i64 k ∧ Below w.heap.size w wr ∧ w.heap.size ≤ wr.heap.size ∧ ∀ (j : Nat) o, j < k → l[j]? = some o → Ls o) (fun v _ => l.length - (intOf v).toNat)
 case atStart => exact ⟨0, Nat.zero_le _, rfl, Below.refl _ _, Nat.le_refl _, fun j o hj => absurd hj (Nat.not_lt_zero j)⟩
 case round =>
  obtain ⟨k, hk, rfl, hb, hs, hok⟩ := hrel
  by_cases hkn : k < l.length
  ·obtain ⟨o, ho⟩ : ∃ o, l[k]? = some o := ⟨_, List.getElem?_eq_getElem hkn⟩
   obtain ⟨b, of, rfl, hlt, c0, c1, c2⟩ := hr k o ho
   have c0 : wr.cell? ⟨b, of + k * 3, none⟩ = some (.int .i64 o.1) := (hb.cell (p := ⟨b, of + k * 3, none⟩) hlt).trans c0
   have c1 : wr.cell? ⟨b, of + k * 3 + 1, none⟩ = some (.int .i64 o.2.1) := (hb.cell (p := ⟨b, of + k * 3 + 1, none⟩) hlt).trans c1
   have c2 : wr.cell? ⟨b, of + k * 3 + 2, none⟩ = some (.int .i64 o.2.2) := (hb.cell (p := ⟨b, of + k * 3 + 2, none⟩) hlt).trans c2
   have hki : (k : Int) < (l.length : Int) := by omega
   have hb2 := hb.alloc hs (.cells #[.int .i64 o.1, .int .i64 o.2.1, .int .i64 o.2.2] 31)
   have H := Lib.hid (And.intro hb2 (And.intro hs hok))
   obtain ⟨x, y, z⟩ := o
   clear hok hb hb2 hs hr
   by_cases d1 : x < 0
   ·go_wp2
    go_ret
    exact ⟨2, rfl, H.out.1, fun e => by simp at e⟩
   by_cases d2 : (10000 : Int) < x
   ·go_wp2
    go_ret
    exact ⟨2, rfl, H.out.1, fun e => by simp at e⟩
   by_cases d3 : y < 0
   ·go_wp2
    go_ret
    exact ⟨2, rfl, H.out.1, fun e => by simp at e⟩
   by_cases d4 : (32 : Int) ≤ y
   ·go_wp2
    go_ret
    exact ⟨2, rfl, H.out.1, fun e => by simp at e⟩
   by_cases d5 : z < 0
   ·go_wp2
    go_ret
    exact ⟨2, rfl, H.out.1, fun e => by simp at e⟩
   by_cases d6 : (10000 : Int) < z
   ·go_wp2
    go_ret
    exact ⟨2, rfl, H.out.1, fun e => by simp at e⟩
   go_wp2
   refine ⟨⟨k + 1, by omega, rfl, H.out.1, Nat.le_trans H.out.2.1 (by simp), fun j o hj hjo => ?_⟩, by simp [intOf]; omega⟩
   by_cases e : j = k
   ·subst e
    rw [ho] at hjo
    cases hjo
    refine ⟨?_, ?_, ?_, ?_, ?_, ?_⟩ <;> simp only [] <;> omega
   ·exact H.out.2.2 j o (by omega) hjo
  ·obtain rfl : k = l.length := by omega
   go_wp2
   go_ret
   refine ⟨0, rfl, hb, fun _ => ⟨by omega, by omega, fun o ho => ?_⟩⟩
   obtain ⟨j, hj⟩ := List.mem_iff_getElem?.1 ho
   exact hok j o (List.getElem?_eq_some_iff.1 hj).1 hj
end Go.Proofs.YtlnlichdidobpaaGreatDoor.Turns
namespace Go.Proofs.YtlnlichdidobpaaGreatDoor.Turns
set_option maxRecDepth 100000
set_option maxHeartbeats 4000000
set_option linter.unusedSimpArgs false
set_option linter.unusedVariables false
open Go Go.Proofs Go.Shelf Go.Sort Go.RowKit
def gC (lev trn : Nat → Int) (x y : Nat) : Prop := lev y < lev x ∨ (lev x = lev y ∧ trn x < trn y)
instance (lev trn : Nat → Int) (x y : Nat) : Decidable (gC lev trn x y) := by unfold gC; infer_instance
def pg (P : Nat → Nat) (xs : List Nat) : List Value := xs.map fun k => .pointer (some ⟨P k, 0, none⟩)
theorem Aw {P : Nat → Nat} {xs : List Nat} : (pg P xs).length = xs.length := by unfold pg; simp
theorem DK {P : Nat → Nat} {xs : List Nat} {j : Nat} : (pg P xs)[j]? = (xs[j]?).map fun k => .pointer (some ⟨P k, 0, none⟩) := by unfold pg; rw [List.getElem?_map]
theorem xE {P : Nat → Nat} {xs : List Nat} {k : Nat} : pg P (xs ++ [k]) = pg P xs ++ [.pointer (some ⟨P k, 0, none⟩)] := by simp [pg]
section
variable (lev trn : Nat → Int) (xs : List Nat)
def EB (x y : { a : Nat // a ∈ xs }) : Int := if nM (lev y.1) (lev x.1) = 0 then nM (trn x.1) (trn y.1) else nM (lev y.1) (lev x.1)
theorem SQ (x y : { a : Nat // a ∈ xs }) : ltOf (EB lev trn xs) x y = decide (gC lev trn x.1 y.1) := by
 unfold ltOf EB nM
 rw [decide_eq_decide]
 unfold gC
 repeat' split
 all_goals omega
theorem TX : SWO (ltOf (EB lev trn xs)) where
 irrefl x := by rw [SQ, decide_eq_false_iff_not]; unfold gC; omega
 trans x y z h1 h2 := by rw [SQ, decide_eq_true_eq] at *; unfold gC at *; omega
 ntrans x y z h1 h2 := by rw [SQ, decide_eq_false_iff_not] at *; unfold gC at *; omega
theorem ET {d M : List Nat} (hd : xs.attach.map Subtype.val = d) (hp : M.Perm d) (hM : M.Pairwise (gC lev trn)) :
  (xs.attach.mergeSort fun x y => !(ltOf (EB lev trn xs)) y x).map Subtype.val = M := by
 have hs := List.pairwise_mergeSort (le := fun x y => !(ltOf (EB lev trn xs)) y x) (fun a b c h1 h2 => by
  simp only [Bool.not_eq_true'] at h1 h2 ⊢
  exact (TX lev trn xs).ntrans _ _ _ h2 h1) (fun a b => by
  simp only [SQ, Bool.or_eq_true, Bool.not_eq_true', decide_eq_false_iff_not]
  unfold gC
  omega) xs.attach
 have hq := List.mergeSort_perm xs.attach (fun x y => !(ltOf (EB lev trn xs)) y x)
 have hq2 : ((xs.attach.mergeSort fun x y => !(ltOf (EB lev trn xs)) y x).map Subtype.val).Perm M := ((hq.map Subtype.val).trans (by rw [hd])).trans hp.symm
 generalize (xs.attach.mergeSort fun x y => !(ltOf (EB lev trn xs)) y x) = L at *
 have hne : ∀ a b, a ∈ M → b ∈ M → ¬ gC lev trn a b → ¬ gC lev trn b a → a = b := by
  clear hs hq hq2 hp
  induction M with
  | nil => intro a b ha; cases ha
  | cons m M ih =>
   rw [List.pairwise_cons] at hM
   intro a b ha hb h1 h2
   rcases List.mem_cons.1 ha with rfl | ha2
   ·rcases List.mem_cons.1 hb with rfl | hb2
    ·rfl
    ·exact absurd (hM.1 b hb2) h1
   ·rcases List.mem_cons.1 hb with rfl | hb2
    ·exact absurd (hM.1 a ha2) h2
    ·exact ih hM.2 a b ha2 hb2 h1 h2
 refine List.Perm.eq_of_pairwise (le := fun x y => ¬ gC lev trn y x) ?_ ?_ ?_ hq2
 ·intro a b ha hb h1 h2
  exact hne a b (hq2.mem_iff.1 ha) hb h2 h1
 ·rw [List.pairwise_map]
  exact hs.imp fun {a b} h => by simpa [SQ] using h
 ·exact hM.imp fun {a b} h => by unfold gC at *; omega
end
theorem FD {B : Nat} {P : Nat → Nat} {lev trn : Nat → Int} {xs M : List Nat} {v : Value} {w : World} (hown : w.ownsRow B 43 1 v xs.length (pg P xs)) (hP : ∀ k ∈ xs, P k < B) (hlen : xs.length ≤ 1000) (hp : M.Perm xs) (hM : M.Pairwise (gC lev trn))
  (hl : ∀ k ∈ xs, w.cell? ⟨P k, 1, none⟩ = some (.int .i64 (lev k))) (ht : ∀ k ∈ xs, w.cell? ⟨P k, 4, none⟩ = some (.int .i64 (trn k))) :
  Calls Tryz.prog 9 #[v, .func (.func 10) #[] #[]] w fun e w' => e = .returned (.tuple #[]) ∧ w'.ownsRow B 43 1 v xs.length (pg P M) ∧ w.grownBy w' v.ownBlock := by
 have hxl : (pg P xs).length = xs.length := Aw
 by_cases hx0 : xs = []
 ·subst hx0
  have hM0 : M = [] := List.Perm.eq_nil hp
  subst hM0
  rcases hown.2 with ⟨rfl, _⟩ | ⟨g, cap, cur, rfl, _⟩
  ·refine (AnyF.slices_SortFunc_none { tT with } none 0 (.func (.func 10) #[] #[]) w).mono fun r w' hr => ?_
   obtain ⟨rfl, rfl⟩ := hr
   exact ⟨rfl, hown, ⟨rfl, rfl, rfl, Nat.le_refl _, fun _ _ _ => rfl⟩⟩
  ·refine (AnyF.slices_SortFunc_none { tT with } (some ⟨g, 0, none⟩) cap (.func (.func 10) #[] #[]) w).mono fun r w' hr => ?_
   obtain ⟨rfl, rfl⟩ := hr
   exact ⟨rfl, hown, ⟨rfl, rfl, rfl, Nat.le_refl _, fun _ _ _ => rfl⟩⟩
 ·rcases hown.2 with ⟨_, h0⟩ | ⟨g, cap, cur, rfl, hb, hg, hnc, hcm, hcs, htake⟩
  ·exact absurd (List.eq_nil_of_length_eq_zero h0) hx0
  ·obtain ⟨x0, hx0⟩ := List.exists_mem_of_ne_nil xs hx0
   letI : Inhabited { a : Nat // a ∈ xs } := ⟨⟨x0, hx0⟩⟩
   have hgl : g < w.heap.size := (Array.getElem?_eq_some_iff.1 hg).1
   generalize hd : xs.attach.toArray = d
   have hdx : d.toList.map Subtype.val = xs := by rw [← hd]; simp
   have hdl : d.size = xs.length := by simpa using congrArg List.length hdx
   have hget : ∀ j, j < d.size → xs[j]? = some d[j]!.1 := fun j hj => by
    have h7 : d.toList[j]? = some d[j]! := by simp [getElem!_pos d j hj, hj]
    have h8 := congrArg (fun l => l[j]?) hdx
    simp only [List.getElem?_map, h7, Option.map_some] at h8
    exact h8.symm
   have hcur : ∀ j, j < xs.length → cur[j]? = (pg P xs)[j]? := fun j hj => by
    rw [← htake, List.getElem?_take, if_pos (by omega), Array.getElem?_toList]
   have hH : Sort.Holds (fun x : { a : Nat // a ∈ xs } => Value.pointer (some ⟨P x.1, 0, none⟩)) w g 0 d := fun j hj => by
    have hc := hcur j (by omega)
    rw [DK, hget j hj] at hc
    refine ⟨?_, by simp [World.frozen?, hg]⟩
    simpa [World.cell?, hg] using hc
   have hcell : ∀ (a : Nat), a ∈ xs → ∀ (n : Nat) (dk : Array { a : Nat // a ∈ xs }) (os : Array Obj) (j : Nat) (v : Value), w.cell? ⟨P a, j, none⟩ = some v →
     (sortWorld (fun x : { a : Nat // a ∈ xs } => Value.pointer (some ⟨P x.1, 0, none⟩)) w g 0 n dk os).cell? ⟨P a, j, none⟩ = some v := fun a ha n dk os j v hv => by
    have hne := hP a ha
    have hlt : P a < w.heap.size := by omega
    have : (sortWorld (fun x : { a : Nat // a ∈ xs } => Value.pointer (some ⟨P x.1, 0, none⟩)) w g 0 n dk os).heap[P a]? = w.heap[P a]? := by
     unfold sortWorld
     rw [heap_grow_old _ _ (by simpa using hlt)]
     unfold putRow mapBlock
     simp only [heap_ahead, Array.getElem?_modify]
     rw [if_neg (by omega)]
    rw [World.cell?_of_block (w := w) (a := ⟨P a, j, none⟩) this]
    exact hv
   have hcmp : CmpLays1 Tryz.prog 10 #[] (fun x : { a : Nat // a ∈ xs } => Value.pointer (some ⟨P x.1, 0, none⟩)) (EB lev trn xs) g 0 d.size w := fun n os dk _ x y =>
    B8 (P x.1) (P y.1) _ _ _ _ _ (hcell x.1 x.2 n dk os 1 _ (hl x.1 x.2)) (hcell x.1 x.2 n dk os 4 _ (ht x.1 x.2)) (hcell y.1 y.2 n dk os 1 _ (hl y.1 y.2)) (hcell y.1 y.2 n dk os 4 _ (ht y.1 y.2))
   have hT : ∀ x y, (ltOf (EB lev trn xs)) x y = false → (ltOf (EB lev trn xs)) y x = false → x = y := fun x y k1 k2 => by
    rw [SQ, decide_eq_false_iff_not] at k1 k2
    have hp2 : ∀ a b, a ∈ M → b ∈ M → ¬ gC lev trn a b → ¬ gC lev trn b a → a = b := by
     clear hp
     induction M with
     | nil => intro a b ha; cases ha
     | cons m M ih =>
      rw [List.pairwise_cons] at hM
      intro a b ha hb h1 h2
      rcases List.mem_cons.1 ha with rfl | ha2
      ·rcases List.mem_cons.1 hb with rfl | hb2
       ·rfl
       ·exact absurd (hM.1 b hb2) h1
      ·rcases List.mem_cons.1 hb with rfl | hb2
       ·exact absurd (hM.1 a ha2) h2
       ·exact ih hM.2 a b ha2 hb2 h1 h2
    exact Subtype.ext (hp2 _ _ (hp.mem_iff.2 x.2) (hp.mem_iff.2 y.2) k1 k2)
   rw [← hdl]
   refine (Any.slices_SortFunc_total tT (fun x : { a : Nat // a ∈ xs } => Value.pointer (some ⟨P x.1, 0, none⟩)) (fun _ => rfl) (EB lev trn xs) (TX lev trn xs) 10 #[] g 0 cap d w (enters_of Tryz.func10 (by kernel_rfl) rfl) hcmp hH hgl (by omega) hT).mono fun r w' hr => ?_
   obtain ⟨rfl, n, os, rfl⟩ := hr
   have hms := ET lev trn xs (d := xs) (M := M) (by simp) hp hM
   have hda : d.toList = xs.attach := by rw [← hd]
   rw [hda]
   generalize hys : (xs.attach.mergeSort fun x y => !(ltOf (EB lev trn xs)) y x) = ys
   rw [hys] at hms
   have hyl : ys.length = xs.length := by rw [← hp.length_eq, ← hms]; simp
   have hat : (sortWorld (fun x : { a : Nat // a ∈ xs } => Value.pointer (some ⟨P x.1, 0, none⟩)) w g 0 n ys.toArray os).heap[g]? = some (.cells (putCells (fun x : { a : Nat // a ∈ xs } => Value.pointer (some ⟨P x.1, 0, none⟩)) 0 ys.toArray cur) 43 (0, 0)) := by
    unfold sortWorld
    rw [heap_grow_old _ _ (by simpa using hgl)]
    unfold putRow mapBlock
    simp only [heap_ahead, Array.getElem?_modify, if_true, hg, Option.map_some, onCells]
   refine ⟨rfl, ⟨by rw [Aw, hp.length_eq, hdl, Nat.mul_one], .inr ⟨g, cap, _, by rw [hdl], hb, hat, by omega, hcm, ?_, ?_⟩⟩, ⟨rfl, rfl, rfl, by unfold sortWorld; simp, fun k hk hne => ?_⟩⟩
   ·unfold putCells
    rw [Array.size_mapIdx]; exact hcs
   ·apply List.ext_getElem?
    intro j
    rw [DK, List.getElem?_take, Nat.mul_one, hdl]
    by_cases hj : j < xs.length
    ·rw [if_pos hj, Array.getElem?_toList]
     unfold putCells
     rw [Array.getElem?_mapIdx, Array.getElem?_eq_getElem (by omega)]
     simp only [Option.map_some]
     rw [if_pos (by simp; omega), ← hms, List.getElem?_map, List.getElem?_eq_getElem (by omega)]
     simp only [Option.map_some, Nat.sub_zero]
     rw [getElem!_pos ys.toArray j (by simp; omega)]
     simp
    ·rw [if_neg hj, List.getElem?_eq_none (by rw [hp.length_eq]; omega)]
     rfl
   ·have hne : k ≠ g := fun e => hne (by rw [e]; rfl)
    unfold sortWorld
    rw [heap_grow_old _ _ (by simpa using hk)]
    unfold putRow mapBlock
    simp only [heap_ahead, Array.getElem?_modify]
    rw [if_neg (fun e => hne e.symm)]
end Go.Proofs.YtlnlichdidobpaaGreatDoor.Turns
namespace Go.Proofs.YtlnlichdidobpaaGreatDoor.Turns
set_option maxRecDepth 100000
set_option maxHeartbeats 4000000
set_option linter.unusedSimpArgs false
set_option linter.unusedVariables false
open Go Go.Proofs Go.Shelf Go.RowKit
def cq (l : List RO) (k : Nat) : RO := l.getD k (0, 0, 0)
def lvl (l : List RO) (k : Nat) : Int := (cq l k).2.1
def ins (l : List RO) (k : Nat) (L : List Nat) : List Nat := L.filter (fun j => decide (lvl l k ≤ lvl l j)) ++ k :: L.filter (fun j => decide (lvl l j < lvl l k))
def arr (l : List RO) (t : Int) : Nat → List Nat → List Nat
 | 0, L => L
 | k + 1, L => if (cq l k).1 = t ∧ 0 < (cq l k).2.2 then ins l k (arr l t k L) else arr l t k L
theorem qo {l : List RO} {t : Int} {k : Nat} (h : (cq l k).1 = t) (L : List Nat) : arr l t (k + 1) L = if 0 < (cq l k).2.2 then ins l k (arr l t k L) else arr l t k L := by
 show (if (cq l k).1 = t ∧ 0 < (cq l k).2.2 then _ else _) = _
 simp only [h, true_and]
theorem uQ {l : List RO} {t : Int} {k : Nat} (h : (cq l k).1 ≠ t) (L : List Nat) : arr l t (k + 1) L = arr l t k L := by
 show (if (cq l k).1 = t ∧ 0 < (cq l k).2.2 then _ else _) = _
 rw [if_neg (fun h' => h h'.1)]
structure QS where
 L : List Nat
 w : Nat → Int
 u : Nat → Int
def bP (f : Nat → Int) (k : Nat) (x : Int) : Nat → Int := fun j => if j = k then x else f j
theorem cw (f : Nat → Int) (k : Nat) (x : Int) : bP f k x k = x := by simp [bP]
theorem cc (f : Nat → Int) {k j : Nat} (x : Int) (h : j ≠ k) : bP f k x j = f j := by simp [bP, h]
def zr (l : List RO) (sl : Int) (w u : Nat → Int) : List Nat → QS
 | [] => ⟨[], w, u⟩
 | k :: r => ⟨if 0 < w k - 1 then (if (u k + 1) % sl = 0 then ins l k r else k :: r) else r, bP w k (w k - 1), bP u k (u k + 1)⟩
def qs (l : List RO) (sl : Int) : Nat → QS
 | 0 => ⟨[], fun k => (cq l k).2.2, fun _ => 0⟩
 | t + 1 => zr l sl (qs l sl t).w (qs l sl t).u (arr l t l.length (qs l sl t).L)
def Gg (l : List RO) (sl : Int) (t : Nat) : List Nat := (arr l t l.length (qs l sl t).L).take 1
theorem qu {l : List RO} {k j : Nat} {L : List Nat} : j ∈ ins l k L ↔ j = k ∨ j ∈ L := by
 unfold ins
 simp only [List.mem_append, List.mem_cons, List.mem_filter, decide_eq_true_eq]
 by_cases h : lvl l k ≤ lvl l j
 ·have h2 : ¬ lvl l j < lvl l k := by omega
  simp only [h, h2, and_true, and_false, or_false]
  constructor
  ·rintro (h | h)
   ·exact .inr h
   ·exact .inl h
  ·rintro (h | h)
   ·exact .inr h
   ·exact .inl h
 ·have h2 : lvl l j < lvl l k := by omega
  simp only [h, h2, and_true, and_false, false_or]
theorem xV {l : List RO} {k : Nat} {L : List Nat} (h : L.Nodup) (hk : k ∉ L) : (ins l k L).Nodup := by
 unfold ins
 rw [List.nodup_append, List.nodup_cons]
 refine ⟨h.filter _, ⟨fun hm => hk (List.mem_filter.1 hm).1, h.filter _⟩, fun a ha b hb e => ?_⟩
 subst e
 obtain ⟨ha1, ha2⟩ := List.mem_filter.1 ha
 rw [decide_eq_true_eq] at ha2
 rcases List.mem_cons.1 hb with rfl | hb
 ·exact hk ha1
 ·have := (List.mem_filter.1 hb).2
  rw [decide_eq_true_eq] at this
  omega
theorem wC {l : List RO} {k : Nat} {L : List Nat} {trn : Nat → Int} {m : Int} (h : L.Pairwise (gC (lvl l) trn)) (hk : k ∉ L) (hm : ∀ j ∈ L, trn j ≤ m) : (ins l k L).Pairwise (gC (lvl l) (bP trn k (m + 1))) := by
 have h' : L.Pairwise (fun a b => gC (lvl l) (bP trn k (m + 1)) a b) := by
  refine List.Pairwise.imp_of_mem ?_ h
  intro a b ha hb hh
  have ha : a ≠ k := fun e => hk (e ▸ ha)
  have hb : b ≠ k := fun e => hk (e ▸ hb)
  unfold gC at *
  rw [cc _ _ ha, cc _ _ hb]
  exact hh
 unfold ins
 rw [List.pairwise_append, List.pairwise_cons]
 refine ⟨h'.filter _, ⟨fun b hb => ?_, h'.filter _⟩, fun a ha b hb => ?_⟩
 ·have := (List.mem_filter.1 hb).2
  rw [decide_eq_true_eq] at this
  exact .inl this
 ·obtain ⟨ha1, ha2⟩ := List.mem_filter.1 ha
  rw [decide_eq_true_eq] at ha2
  rcases List.mem_cons.1 hb with rfl | hb
  ·have hne : a ≠ b := fun e => hk (e ▸ ha1)
   have := hm a ha1
   unfold gC
   rw [cc _ _ hne, cw]
   omega
  ·have := (List.mem_filter.1 hb).2
   rw [decide_eq_true_eq] at this
   exact .inl (by omega)
structure CI (l : List RO) (t : Int) (k : Nat) (M : List Nat) (w trn : Nat → Int) (turn : Int) : Prop where
 nd : M.Nodup
 mem : ∀ j, j ∈ M ↔ j < l.length ∧ ((cq l j).1 < t ∨ ((cq l j).1 = t ∧ j < k)) ∧ 0 < w j
 Lw : M.Pairwise (gC (lvl l) trn)
 top : ∀ j, trn j ≤ turn
 new : ∀ j, t ≤ (cq l j).1 → w j = (cq l j).2.2
section
variable {l : List RO} {t : Int} {k : Nat} {M : List Nat} {w trn : Nat → Int} {turn : Int}
theorem CI.skip (h : CI l t k M w trn turn) (hk : (cq l k).1 ≠ t) : CI l t (k + 1) M w trn turn := by
 refine ⟨h.nd, fun j => (h.mem j).trans ?_, h.Lw, h.top, h.new⟩
 have : ((cq l j).1 = t ∧ j < k) ↔ ((cq l j).1 = t ∧ j < k + 1) := by
  constructor
  ·rintro ⟨a, b⟩
   exact ⟨a, by omega⟩
  ·rintro ⟨a, b⟩
   refine ⟨a, ?_⟩
   by_cases e : j = k
   ·exact absurd (e ▸ a) hk
   ·omega
 rw [this]
theorem CI.SC (h : CI l t k M w trn turn) (hk : (cq l k).1 = t) (hkn : k < l.length) : CI l t (k + 1) (if 0 < (cq l k).2.2 then ins l k M else M) w (bP trn k (turn + 1)) (turn + 1) := by
 have hkM : k ∉ M := fun hm => by
  have := ((h.mem k).1 hm).2.1
  omega
 have hw := h.new k (by omega)
 have htop : ∀ j, bP trn k (turn + 1) j ≤ turn + 1 := fun j => by
  unfold bP
  have := h.top j
  split <;> omega
 have hmem : ∀ j, j ≠ k → ((j < l.length ∧ ((cq l j).1 < t ∨ ((cq l j).1 = t ∧ j < k)) ∧ 0 < w j) ↔ (j < l.length ∧ ((cq l j).1 < t ∨ ((cq l j).1 = t ∧ j < k + 1)) ∧ 0 < w j)) := fun j hj => by
  constructor <;> rintro ⟨a, b, c⟩ <;> exact ⟨a, by omega, c⟩
 by_cases hp : 0 < (cq l k).2.2
 ·rw [if_pos hp]
  refine ⟨xV h.nd hkM, fun j => ?_, wC h.Lw hkM (fun j _ => h.top j), htop, h.new⟩
  rw [qu]
  by_cases e : j = k
  ·subst e
   exact ⟨fun _ => ⟨hkn, .inr ⟨hk, by omega⟩, by omega⟩, fun _ => .inl rfl⟩
  ·rw [← hmem j e, ← h.mem j]
   simp [e]
 ·rw [if_neg hp]
  refine ⟨h.nd, fun j => ?_, ?_, htop, h.new⟩
  ·by_cases e : j = k
   ·subst e
    exact ⟨fun hm => absurd hm hkM, fun hm => by omega⟩
   ·rw [← hmem j e, ← h.mem j]
  ·refine List.Pairwise.imp_of_mem ?_ h.Lw
   intro a b ha hb hh
   unfold gC at *
   rw [cc _ _ (fun e : a = k => hkM (e ▸ ha)), cc _ _ (fun e : b = k => hkM (e ▸ hb))]
   exact hh
theorem CI.idle (h : CI l t l.length [] w trn turn) : CI l (t + 1) 0 [] w trn turn := by
 refine ⟨h.nd, fun j => (h.mem j).trans ?_, h.Lw, h.top, fun j hj => h.new j (by omega)⟩
 constructor
 ·rintro ⟨a, b, c⟩
  exact ⟨a, by omega, c⟩
 ·rintro ⟨a, b, c⟩
  exact ⟨a, by omega, c⟩
theorem CI.run {j : Nat} {r : List Nat} (h : CI l t l.length (j :: r) w trn turn) (b : Bool) (hturn : 0 ≤ turn) :
  CI l (t + 1) 0 (if 0 < w j - 1 then (if b then ins l j r else j :: r) else r) (bP w j (w j - 1)) (if b then bP trn j (turn + 1) else trn) (if b then turn + 1 else turn) := by
 have hnd := List.nodup_cons.1 h.nd
 have hpw := List.pairwise_cons.1 h.Lw
 have hj := (h.mem j).1 (List.mem_cons_self ..)
 have hr : ∀ i, i ≠ j → (i ∈ r ↔ i < l.length ∧ ((cq l i).1 < t + 1 ∨ ((cq l i).1 = t + 1 ∧ i < 0)) ∧ 0 < w i) := fun i hi => by
  have := h.mem i
  rw [List.mem_cons] at this
  constructor
  ·intro hm
   obtain ⟨a, b, c⟩ := this.1 (.inr hm)
   exact ⟨a, by omega, c⟩
  ·rintro ⟨a, b, c⟩
   exact (this.2 ⟨a, by omega, c⟩).resolve_left hi
 have htop : ∀ i, (if b then bP trn j (turn + 1) else trn) i ≤ (if b then turn + 1 else turn) := fun i => by
  have := h.top i
  cases b
  ·exact this
  ·show bP trn j (turn + 1) i ≤ turn + 1
   unfold bP
   split <;> omega
 have hnew : ∀ i, t + 1 ≤ (cq l i).1 → bP w j (w j - 1) i = (cq l i).2.2 := fun i hi => by
  rw [cc _ _ (fun e => by subst e; omega)]
  exact h.new i (by omega)
 have hsr : r.Pairwise (gC (lvl l) (if b then bP trn j (turn + 1) else trn)) := by
  cases b
  ·exact hpw.2
  ·refine List.Pairwise.imp_of_mem ?_ hpw.2
   intro a c ha hc hh
   show gC (lvl l) (bP trn j (turn + 1)) a c
   unfold gC at *
   rw [cc _ _ (fun e : a = j => hnd.1 (e ▸ ha)), cc _ _ (fun e : c = j => hnd.1 (e ▸ hc))]
   exact hh
 by_cases hp : 0 < w j - 1
 ·rw [if_pos hp]
  have hmem : ∀ i, (i = j ∨ i ∈ r) ↔ i < l.length ∧ ((cq l i).1 < t + 1 ∨ ((cq l i).1 = t + 1 ∧ i < 0)) ∧ 0 < bP w j (w j - 1) i := fun i => by
   by_cases e : i = j
   ·subst e
    rw [cw]
    exact ⟨fun _ => ⟨hj.1, by omega, hp⟩, fun _ => .inl rfl⟩
   ·rw [cc _ _ e, ← hr i e]
    simp [e]
  cases b
  ·exact ⟨h.nd, fun i => by rw [← hmem i, if_neg (by decide), List.mem_cons], h.Lw, htop, hnew⟩
  ·refine ⟨xV hnd.2 hnd.1, fun i => ?_, ?_, htop, hnew⟩
   ·rw [← hmem i]
    exact qu
   ·exact wC hpw.2 hnd.1 (fun i _ => h.top i)
 ·rw [if_neg hp]
  refine ⟨hnd.2, fun i => ?_, hsr, htop, hnew⟩
  by_cases e : i = j
  ·subst e
   rw [cw]
   exact ⟨fun hm => absurd hm hnd.1, fun hm => absurd hm.2.2 hp⟩
  ·rw [cc _ _ e]
   exact hr i e
def uO (l : List RO) (t : Int) (w : Nat → Int) (k : Nat) : List Nat := (List.range k).filter fun j => decide ((cq l j).1 ≤ t ∧ 0 < w j)
theorem lu (l : List RO) (t : Int) (w : Nat → Int) (k : Nat) : uO l t w (k + 1) = uO l t w k ++ if (cq l k).1 ≤ t ∧ 0 < w k then [k] else [] := by
 unfold uO
 rw [List.range_succ, List.filter_append]
 congr 1
 by_cases h : (cq l k).1 ≤ t ∧ 0 < w k
 ·rw [if_pos h, List.filter_cons_of_pos (by simpa using h)]
  rfl
 ·rw [if_neg h, List.filter_cons_of_neg (by simpa using h)]
  rfl
theorem BL {l : List RO} {t : Int} {w : Nat → Int} {k j : Nat} (h : j ∈ uO l t w k) : j < k := List.mem_range.1 (List.mem_filter.1 h).1
theorem qS (l : List RO) (t : Int) (w : Nat → Int) (k : Nat) : (uO l t w k).length ≤ k := by
 have := List.length_filter_le (fun j => decide ((cq l j).1 ≤ t ∧ 0 < w j)) (List.range k)
 rw [List.length_range] at this
 exact this
theorem sW {α : Type} [DecidableEq α] {a b : List α} (ha : a.Nodup) (hb : b.Nodup) (h : ∀ x, x ∈ a ↔ x ∈ b) : a.Perm b := by
 rw [List.perm_iff_count]
 intro x
 rw [ha.count, hb.count]
 simp only [h x]
theorem CI.perm (h : CI l t l.length M w trn turn) : M.Perm (uO l t w l.length) := by
 refine sW h.nd (List.Pairwise.filter _ List.nodup_range) fun j => (h.mem j).trans ?_
 unfold uO
 rw [List.mem_filter, List.mem_range, decide_eq_true_eq]
 constructor <;> rintro ⟨a, b, c⟩ <;> exact ⟨a, by omega, c⟩
theorem pJ (hl : ∀ o ∈ l, Ls o) (j : Nat) : Ls (cq l j) := by
 unfold cq
 rw [List.getD_eq_getElem?_getD]
 rcases h : l[j]? with _ | o
 ·show Ls (0, 0, 0)
  unfold Ls
  decide
 ·exact hl o (List.mem_iff_getElem?.2 ⟨j, h⟩)
theorem CI.start (hl : ∀ o ∈ l, Ls o) : CI l 0 0 [] (fun k => (cq l k).2.2) (fun _ => 0) 0 := by
 refine ⟨List.nodup_nil, fun j => ?_, List.Pairwise.nil, fun _ => Int.le_refl _, fun _ _ => rfl⟩
 have h0 := (pJ hl j).1
 constructor
 ·intro h
  cases h
 ·rintro ⟨_, h, _⟩
  omega
theorem CI.len (h : CI l t k M w trn turn) : M.length ≤ l.length := by
 have hs : M.length ≤ ((List.range l.length).filter fun j => decide (((cq l j).1 < t ∨ ((cq l j).1 = t ∧ j < k)) ∧ 0 < w j)).length := by
  exact Nat.le_of_eq (sW (b := (List.range l.length).filter fun j => decide (((cq l j).1 < t ∨ ((cq l j).1 = t ∧ j < k)) ∧ 0 < w j)) h.nd (List.Pairwise.filter _ List.nodup_range) fun j => (h.mem j).trans (by rw [List.mem_filter, List.mem_range, decide_eq_true_eq])).length_eq
 refine Nat.le_trans hs (Nat.le_trans (List.length_filter_le _ _) ?_)
 rw [List.length_range]
 exact Nat.le_refl _
end
theorem JO (l : List RO) (sl : Int) : ∀ t, (∀ j, (qs l sl t).w j ≤ (cq l j).2.2) ∧ ∀ j, 0 ≤ (qs l sl t).u j ∧ (qs l sl t).u j ≤ t
 | 0 => ⟨fun _ => Int.le_refl _, fun _ => ⟨Int.le_refl _, Int.le_refl _⟩⟩
 | t + 1 => by
  have ⟨h1, h2⟩ := JO l sl t
  show (∀ j, (zr l sl (qs l sl t).w (qs l sl t).u (arr l t l.length (qs l sl t).L)).w j ≤ _) ∧ ∀ j, 0 ≤ (zr l sl (qs l sl t).w (qs l sl t).u (arr l t l.length (qs l sl t).L)).u j ∧ (zr l sl (qs l sl t).w (qs l sl t).u (arr l t l.length (qs l sl t).L)).u j ≤ _
  cases arr l t l.length (qs l sl t).L with
  | nil => exact ⟨h1, fun j => ⟨(h2 j).1, by have := (h2 j).2; show (qs l sl t).u j ≤ _; omega⟩⟩
  | cons k r =>
   refine ⟨fun j => ?_, fun j => ?_⟩
   ·show bP _ k _ j ≤ _
    unfold bP
    have := h1 j
    split
    ·rename_i e
     rw [← e]
     omega
    ·exact this
   ·show 0 ≤ bP _ k _ j ∧ bP _ k _ j ≤ _
    unfold bP
    have := h2 j
    split
    ·rename_i e
     rw [← e]
     omega
    ·omega
theorem Ka {u sl : Int} (h : 1 ≤ sl) : (u % sl + 1 = sl → (u + 1) % sl = 0) ∧ (u % sl + 1 ≠ sl → (u + 1) % sl = u % sl + 1) := by
 have h1 := Int.emod_nonneg u (show sl ≠ 0 by omega)
 have h2 := Int.emod_lt_of_pos u (show 0 < sl by omega)
 have h3 : (u + 1) % sl = (u % sl + 1) % sl := (Int.emod_add_emod u sl 1).symm
 refine ⟨fun e => ?_, fun e => ?_⟩
 ·rw [h3, e, Int.emod_self]
 ·rw [h3, Int.emod_eq_of_lt (by omega) (by omega)]
end Go.Proofs.YtlnlichdidobpaaGreatDoor.Turns
namespace Go.Proofs.YtlnlichdidobpaaGreatDoor.Turns
set_option maxRecDepth 100000
set_option maxHeartbeats 4000000
set_option linter.unusedSimpArgs false
set_option linter.unusedVariables false
open Go Go.Proofs Go.Shelf Go.RowKit
def qL (l : List RO) (L : List Nat) : QL := L.map fun k : Nat => ((k : Int), lvl l k)
section
variable {l : List RO} {k : Nat} {L : List Nat}
theorem jC (L : List Nat) (i : Nat) : lv (qL l L) i = (L.filter fun k => decide (lvl l k = (i : Int))).map fun k : Nat => (k : Int) := by
 unfold lv qL
 rw [List.filter_map, List.map_map]
 rfl
theorem CB {x : Int} {m : Int} : (x, m) ∈ qL l L ↔ ∃ k ∈ L, (k : Int) = x ∧ lvl l k = m := by
 unfold qL
 rw [List.mem_map]
 constructor
 ·rintro ⟨k, h, e⟩
  injection e with e1 e2
  exact ⟨k, h, e1, e2⟩
 ·rintro ⟨k, h, rfl, rfl⟩
  exact ⟨k, h, rfl⟩
theorem CX (hk : k ∉ L) (m : Int) : ((k : Int), m) ∉ qL l L := fun h => by
 obtain ⟨j, hj, e, _⟩ := CB.1 h
 have : j = k := by omega
 exact hk (this ▸ hj)
theorem Dg (L : List Nat) (i : Nat) : (lv (qL l L) i).length ≤ L.length := by
 rw [jC, List.length_map]
 exact List.length_filter_le _ _
theorem we (i : Int) : (ins l k L).filter (fun j => decide (lvl l j = i)) = if lvl l k = i then (L.filter fun j => decide (lvl l j = i)) ++ [k] else L.filter fun j => decide (lvl l j = i) := by
 unfold ins
 rw [List.filter_append, List.filter_filter, List.filter_cons, List.filter_filter]
 by_cases h : lvl l k = i
 ·rw [if_pos h, if_pos (by simpa using h)]
  congr 1
  ·refine List.filter_congr fun j _ => ?_
   rw [Bool.eq_iff_iff]
   simp only [Bool.and_eq_true, decide_eq_true_eq]
   omega
  ·congr 1
   rw [List.filter_eq_nil_iff]
   intro j _
   simp only [Bool.and_eq_true, decide_eq_true_eq]
   omega
 ·rw [if_neg h, if_neg (by simpa using h)]
  by_cases h2 : lvl l k ≤ i
  ·have e1 : L.filter (fun j => decide (lvl l j = i) && decide (lvl l k ≤ lvl l j)) = L.filter (fun j => decide (lvl l j = i)) := List.filter_congr fun j _ => by
    rw [Bool.eq_iff_iff]
    simp only [Bool.and_eq_true, decide_eq_true_eq]
    omega
   have e2 : L.filter (fun j => decide (lvl l j = i) && decide (lvl l j < lvl l k)) = [] := List.filter_eq_nil_iff.2 fun j _ => by
    simp only [Bool.and_eq_true, decide_eq_true_eq]
    omega
   rw [e1, e2, List.append_nil]
  ·have e1 : L.filter (fun j => decide (lvl l j = i) && decide (lvl l k ≤ lvl l j)) = [] := List.filter_eq_nil_iff.2 fun j _ => by
    simp only [Bool.and_eq_true, decide_eq_true_eq]
    omega
   have e2 : L.filter (fun j => decide (lvl l j = i) && decide (lvl l j < lvl l k)) = L.filter (fun j => decide (lvl l j = i)) := List.filter_congr fun j _ => by
    rw [Bool.eq_iff_iff]
    simp only [Bool.and_eq_true, decide_eq_true_eq]
    omega
   rw [e1, e2, List.nil_append]
theorem DJ (hk : k ∉ L) (h0 : 0 ≤ lvl l k) (h1 : lvl l k < 32) (hn : L.length ≤ 1000000) : Rel (qL l L) (1, (k : Int), lvl l k) (qL l (ins l k L)) := by
 refine .inl ⟨.inl rfl, (lvl l k).toNat, by omega, by show lvl l k = _; omega, CX hk, Nat.le_trans (Dg _ _) hn, ?_, fun i _ hi => ?_, fun p => ?_⟩
 ·rw [jC, jC, we, if_pos (by omega)]
  simp
 ·rw [jC, jC, we, if_neg (by omega)]
 ·obtain ⟨x, m⟩ := p
  rw [CB, CB]
  constructor
  ·rintro ⟨j, hj, rfl, rfl⟩
   rcases qu.1 hj with rfl | hj
   ·left
    show ((j : Int), lvl l j) = ((j : Int), (((lvl l j).toNat : Nat) : Int))
    congr 1
    omega
   ·exact .inr ⟨j, hj, rfl, rfl⟩
  ·rintro (e | ⟨j, hj, rfl, rfl⟩)
   ·injection e with e1 e2
    exact ⟨k, qu.2 (.inl rfl), e1.symm, by omega⟩
   ·exact ⟨j, qu.2 (.inr hj), rfl, rfl⟩
theorem Kb (hk : k ∉ L) (h0 : 0 ≤ lvl l k) (h1 : lvl l k < 32) (hn : L.length ≤ 1000000) : Rel (qL l L) (2, (k : Int), lvl l k) (qL l (k :: L)) := by
 refine .inl ⟨.inr rfl, (lvl l k).toNat, by omega, by show lvl l k = _; omega, CX hk, Nat.le_trans (Dg _ _) hn, ?_, fun i _ hi => ?_, fun p => ?_⟩
 ·rw [jC, jC, List.filter_cons_of_pos (by simp; omega)]
  simp
 ·rw [jC, jC, List.filter_cons_of_neg (by simp; omega)]
 ·show p ∈ ((k : Int), lvl l k) :: qL l L ↔ p = ((k : Int), (((lvl l k).toNat : Nat) : Int)) ∨ p ∈ qL l L
  rw [List.mem_cons, Int.toNat_of_nonneg h0]
theorem H3 (hnd : (k :: L).Nodup) (hs : (k :: L).Pairwise (fun a b => lvl l b ≤ lvl l a)) (h0 : 0 ≤ lvl l k) (h1 : lvl l k < 32) : Rel (qL l (k :: L)) (3, 0, 0) (qL l L) := by
 have hk := (List.nodup_cons.1 hnd).1
 refine .inr ⟨rfl, (lvl l k).toNat, k, (L.filter fun j => decide (lvl l j = ((lvl l k).toNat : Int))).map fun k : Nat => (k : Int), by omega, ?_, fun i _ hi => ?_, jC _ _, fun i _ hi => ?_, fun p => ?_⟩
 ·rw [jC, List.filter_cons_of_pos (by simp; omega)]
  rfl
 ·rw [jC, List.filter_eq_nil_iff.2 (fun j hj => ?_)]
  ·rfl
  ·simp only [decide_eq_true_eq]
   rcases List.mem_cons.1 hj with rfl | hj
   ·omega
   ·have := (List.pairwise_cons.1 hs).1 j hj
    omega
 ·rw [jC, jC, List.filter_cons_of_neg (by simp; omega)]
 ·obtain ⟨x, m⟩ := p
  show (x, m) ∈ qL l L ↔ (x, m) ∈ ((k : Int), lvl l k) :: qL l L ∧ (x, m) ≠ ((k : Int), (((lvl l k).toNat : Nat) : Int))
  rw [List.mem_cons, Int.toNat_of_nonneg h0]
  constructor
  ·intro h
   refine ⟨.inr h, fun e => ?_⟩
   injection e with e1 e2
   subst e1
   exact CX hk _ h
  ·rintro ⟨e | h, hne⟩
   ·exact absurd e hne
   ·exact h
theorem Af (hs : L.Pairwise (fun a b => lvl l b ≤ lvl l a)) (c : Int) : L.filter (fun j => decide (c < lvl l j)) ++ L.filter (fun j => decide (lvl l j = c)) = L.filter (fun j => decide (c - 1 < lvl l j)) := by
 induction L with
 | nil => rfl
 | cons a L ih =>
  obtain ⟨h1, h2⟩ := List.pairwise_cons.1 hs
  have ih := ih h2
  by_cases ha : c < lvl l a
  ·rw [List.filter_cons_of_pos (by simpa using ha), List.filter_cons_of_neg (by simp; omega), List.filter_cons_of_pos (by simp; omega), List.cons_append, ih]
  ·by_cases hb : lvl l a = c
   ·have hn : L.filter (fun j => decide (c < lvl l j)) = [] := List.filter_eq_nil_iff.2 fun j hj => by
     have := h1 j hj
     simp only [decide_eq_true_eq]
     omega
    rw [List.filter_cons_of_neg (by simpa using ha), List.filter_cons_of_pos (by simpa using hb), List.filter_cons_of_pos (by simp; omega), ← ih, hn]
    rfl
   ·rw [List.filter_cons_of_neg (by simpa using ha), List.filter_cons_of_neg (by simpa using hb), List.filter_cons_of_neg (by simp; omega), ih]
theorem Ki (hs : L.Pairwise (fun a b => lvl l b ≤ lvl l a)) (h1 : ∀ j ∈ L, lvl l j < 32) : ∀ k, k ≤ 32 → pre (qL l L) k = (L.filter fun j => decide (31 - (k : Int) < lvl l j)).map fun k : Nat => (k : Int)
 | 0, _ => by
  rw [List.filter_eq_nil_iff.2 (fun j hj => by
   have := h1 j hj
   simp only [decide_eq_true_eq]
   omega)]
  rfl
 | k + 1, hk => by
  rw [vG, Ki hs h1 k (by omega), jC, ← List.map_append]
  have := Af hs (31 - (k : Int))
  have e : ((31 - k : Nat) : Int) = 31 - (k : Int) := by omega
  rw [e, this]
  have e2 : 31 - (k : Int) - 1 = 31 - ((k + 1 : Nat) : Int) := by omega
  rw [e2]
theorem N3 (hs : L.Pairwise (fun a b => lvl l b ≤ lvl l a)) (h1 : ∀ j ∈ L, 0 ≤ lvl l j ∧ lvl l j < 32) : eA (qL l L) = L.map fun k : Nat => (k : Int) := by
 show pre (qL l L) 32 = _
 rw [Ki hs (fun j hj => (h1 j hj).2) 32 (by omega), List.filter_eq_self.2 (fun j hj => by
  have := (h1 j hj).1
  simp only [decide_eq_true_eq]
  omega)]
end
inductive sQ : List RO → QL → Prop where
 | nil : sQ [] []
 | snoc {ops : List RO} {L L' : QL} {o : RO} : sQ ops L → Rel L o L' → sQ (ops ++ [o]) L'
theorem sQ.lists {ops : List RO} {L : QL} (h : sQ ops L) : ∃ Lf : Nat → QL, Lf 0 = [] ∧ (∀ (i : Nat) o, ops[i]? = some o → Rel (Lf i) o (Lf (i + 1))) ∧ Lf ops.length = L := by
 induction h with
 | nil => exact ⟨fun _ => [], rfl, ⟨fun i o h => absurd h (by simp), rfl⟩⟩
 | @snoc ops L L' o _ hr ih =>
  obtain ⟨Lf, h0, h1, h2⟩ := ih
  refine ⟨fun i => if i ≤ ops.length then Lf i else L', by simp [h0], fun i p hp => ?_, by rw [List.length_append, List.length_singleton]; exact if_neg (by omega)⟩
  have hi : i < ops.length + 1 := by
   have := (List.getElem?_eq_some_iff.1 hp).1
   simpa using this
  by_cases e : i = ops.length
  ·subst e
   rw [List.getElem?_append_right (Nat.le_refl _), Nat.sub_self] at hp
   injection hp with hp
   subst hp
   show Rel (if ops.length ≤ ops.length then Lf ops.length else L') o (if ops.length + 1 ≤ ops.length then Lf (ops.length + 1) else L')
   rw [if_pos (Nat.le_refl _), if_neg (by omega), h2]
   exact hr
  ·rw [List.getElem?_append_left (by omega)] at hp
   show Rel (if i ≤ ops.length then Lf i else L') p (if i + 1 ≤ ops.length then Lf (i + 1) else L')
   rw [if_pos (by omega), if_pos (by omega)]
   exact h1 i p hp
end Go.Proofs.YtlnlichdidobpaaGreatDoor.Turns
namespace Go.Proofs.YtlnlichdidobpaaGreatDoor.Turns
set_option maxRecDepth 100000
set_option maxHeartbeats 4000000
set_option linter.unusedSimpArgs false
set_option linter.unusedVariables false
open Go Go.Proofs Go.Shelf Go.RowKit
def gn (o : RO) (w t u : Int) (k : Nat) : List Value := [.int .i64 o.1, .int .i64 o.2.1, .int .i64 w, .int .i64 k, .int .i64 t, .int .i64 u]
structure MI (l : List RO) (B A : Nat) (P : Nat → Nat) (n : Nat) (wr : World) (w trn us : Nat → Int) : Prop where
 all : ∃ cur, wr.heap[A]? = some (.cells cur 43 (0, 0)) ∧ cur.size = l.length ∧ ∀ k, k < n → cur[k]? = some (.pointer (some ⟨P k, 0, none⟩))
 cq : ∀ k, k < n → wr.heap[P k]? = some (.cells (gn (cq l k) (w k) (trn k) (us k) k).toArray 45 (0, 0))
 inj : ∀ i j, i < n → j < n → P i = P j → i = j
 Vq : B ≤ A
 SS : ∀ k, k < n → B ≤ P k ∧ P k ≠ A
section
variable {l : List RO} {B A : Nat} {P : Nat → Nat} {n : Nat} {wr w2 : World} {w trn us : Nat → Int}
theorem MI.keep (h : MI l B A P n wr w trn us) (hk : ∀ b, (b = A ∨ ∃ k, k < n ∧ b = P k) → w2.heap[b]? = wr.heap[b]?) : MI l B A P n w2 w trn us := by
 obtain ⟨cur, h1, h2, h3⟩ := h.all
 exact ⟨⟨cur, (hk A (.inl rfl)).trans h1, h2, h3⟩, fun k hkn => (hk (P k) (.inr ⟨k, hkn, rfl⟩)).trans (h.cq k hkn), h.inj, h.Vq, h.SS⟩
theorem MI.lt (h : MI l B A P n wr w trn us) {k : Nat} (hk : k < n) : P k < wr.heap.size := (Array.getElem?_eq_some_iff.1 (h.cq k hk)).1
theorem MI.Tj (h : MI l B A P n wr w trn us) : A < wr.heap.size := by
 obtain ⟨cur, h1, _⟩ := h.all
 exact (Array.getElem?_eq_some_iff.1 h1).1
theorem MI.ptr (h : MI l B A P n wr w trn us) {k : Nat} (hk : k < n) : wr.cell? ⟨A, k, none⟩ = some (.pointer (some ⟨P k, 0, none⟩)) := by
 obtain ⟨cur, h1, h2, h3⟩ := h.all
 exact aQ h1 (h3 k hk)
theorem MI.cells (h : MI l B A P n wr w trn us) {k : Nat} (hk : k < n) : wr.cell? ⟨P k, 0, none⟩ = some (.int .i64 (_root_.Go.Proofs.YtlnlichdidobpaaGreatDoor.Turns.cq l k).1) ∧ wr.cell? ⟨P k, 1, none⟩ = some (.int .i64 (lvl l k)) ∧ wr.cell? ⟨P k, 2, none⟩ = some (.int .i64 (w k)) ∧
  wr.cell? ⟨P k, 3, none⟩ = some (.int .i64 k) ∧ wr.cell? ⟨P k, 4, none⟩ = some (.int .i64 (trn k)) ∧ wr.cell? ⟨P k, 5, none⟩ = some (.int .i64 (us k)) ∧ ∀ j, wr.frozen? ⟨P k, j, none⟩ = false :=
 ⟨aQ (h.cq k hk) rfl, aQ (h.cq k hk) rfl, aQ (h.cq k hk) rfl, aQ (h.cq k hk) rfl, aQ (h.cq k hk) rfl, aQ (h.cq k hk) rfl, fun j => by simp [World.frozen?, h.cq k hk]⟩
theorem MI.set (h : MI l B A P n wr w trn us) {k o : Nat} (hk : k < n) {v : Value} {w' trn' us' : Nat → Int} (hw : ∀ j, j ≠ k → w' j = w j) (ht : ∀ j, j ≠ k → trn' j = trn j) (hu : ∀ j, j ≠ k → us' j = us j)
  (hc : (gn (_root_.Go.Proofs.YtlnlichdidobpaaGreatDoor.Turns.cq l k) (w k) (trn k) (us k) k).set o v = gn (_root_.Go.Proofs.YtlnlichdidobpaaGreatDoor.Turns.cq l k) (w' k) (trn' k) (us' k) k) : MI l B A P n (wr.setCell ⟨P k, o, none⟩ v) w' trn' us' := by
 obtain ⟨cur, h1, h2, h3⟩ := h.all
 refine ⟨⟨cur, (bd (w := wr) (fun e => (h.SS k hk).2 e.symm)).trans h1, h2, h3⟩, fun j hj => ?_, h.inj, h.Vq, h.SS⟩
 by_cases e : j = k
 ·subst e
  rw [← hc]
  exact lF (h.cq j hj)
 ·rw [bd (w := wr) (fun e' => e (h.inj j k hj hk e')), hw j e, ht j e, hu j e]
  exact h.cq j hj
structure TS (P : Nat → Nat) (n : Nat) (wr w2 : World) : Prop where
 os : w2.os = wr.os
 tape : w2.tape = wr.tape
 output : w2.output = wr.output
 size : wr.heap.size ≤ w2.heap.size
 tm : ∀ b, b < wr.heap.size → (∀ k, k < n → b ≠ P k) → w2.heap[b]? = wr.heap[b]?
theorem TS.refl (P : Nat → Nat) (n : Nat) (wr : World) : TS P n wr wr := ⟨rfl, rfl, rfl, Nat.le_refl _, fun _ _ _ => rfl⟩
theorem TS.set (h : TS P n wr w2) {k o : Nat} (hk : k < n) {v : Value} : TS P n wr (w2.setCell ⟨P k, o, none⟩ v) :=
 ⟨h.os, h.tape, h.output, Nat.le_trans h.size (by simp [World.setCell]), fun b hb hn => (bd (w := w2) (hn k hk)).trans (h.tm b hb hn)⟩
theorem TS.alloc (h : TS P n wr w2) (o : Obj) : TS P n wr (w2.alloc o) :=
 ⟨h.os, h.tape, h.output, Nat.le_trans h.size (by simp), fun b hb hn => (heap_alloc_old w2 o (Nat.lt_of_lt_of_le hb h.size)).trans (h.tm b hb hn)⟩
theorem TS.grown (h : TS P n wr w2) {w3 : World} {row : Option Nat} (hg : w2.grownBy w3 row) (hr : ∀ g, row = some g → wr.heap.size ≤ g) : TS P n wr w3 :=
 ⟨hg.os.trans h.os, hg.tape.trans h.tape, hg.output.trans h.output, Nat.le_trans h.size hg.size, fun b hb hn => (hg.block b (Nat.lt_of_lt_of_le hb h.size) (fun e => by have := hr b e.symm; omega)).trans (h.tm b hb hn)⟩
theorem MI.alloc (h : MI l B A P n wr w trn us) (o : Obj) : MI l B A P n (wr.alloc o) w trn us :=
 h.keep fun b hb => heap_alloc_old wr o (by
  rcases hb with rfl | ⟨k, hk, rfl⟩
  ·exact h.Tj
  ·exact h.lt hk)
theorem MI.grown (h : MI l B A P n wr w trn us) {w3 : World} {row : Option Nat} (hg : wr.grownBy w3 row) (hr : ∀ g, row = some g → g ≠ A ∧ ∀ k, k < n → g ≠ P k) : MI l B A P n w3 w trn us :=
 h.keep fun b hb => by
  rcases hb with rfl | ⟨k, hk, rfl⟩
  ·exact hg.block _ h.Tj (fun e => (hr _ e.symm).1 rfl)
  ·exact hg.block _ (h.lt hk) (fun e => (hr _ e.symm).2 k hk rfl)
end
theorem sa {B g n n' cap j : Nat} {e : TypeId} {xs : List Value} {w : World} {v : Value} (h : w.ownsRow B e 1 (.slice (some ⟨g, 0, none⟩) n' cap) n xs) (hj : xs[j]? = some v) : w.cell? ⟨g, j, none⟩ = some v := by
 have hl := h.1
 rcases h.2 with ⟨h', _⟩ | ⟨g', cap', cur, h', _, hg, _, _, _, ht⟩
 ·cases h'
 ·injection h' with h1 _ h2
  injection h1 with h1
  injection h1 with h1
  subst h1 h2
  have hjl : j < xs.length := (List.getElem?_eq_some_iff.1 hj).1
  rw [← ht, List.getElem?_take, if_pos (by omega), Array.getElem?_toList] at hj
  exact aQ hg hj
theorem vN {B g cap : Nat} {x : Int} {w : World} (hown : w.ownsRow B 3 1 (.slice (some ⟨g, 0, none⟩) 1 cap) 1 [.int .i64 x]) :
  Calls Tryz.prog 13 #[.slice (some ⟨g, 0, none⟩) 1 cap] w fun e w' => e = .returned (.tuple #[]) ∧ w.grownBy w' (some g) ∧ w'.cell? ⟨g, 0, none⟩ = some (.int .i64 x) := by
 obtain ⟨cur, -, hbg, hg, hnc, hcm, hcs, hget⟩ := jt (xs := [x]) hown
 have hgl : g < w.heap.size := (Array.getElem?_eq_some_iff.1 hg).1
 have h0 : cur[0]? = some (.int .i64 x) := hget 0 x rfl
 have hH : Sort.Holds (Value.int .i64) w g 0 [x].toArray := fun j hj => by
  have hj : j < 1 := hj
  obtain rfl : j = 0 := by omega
  refine ⟨?_, by simp [World.frozen?, hg]⟩
  exact aQ hg h0
 refine (Any.slices_Sort_int Pt g 0 cap [x] w hH hgl (by simp)).mono fun r w' hr => ?_
 obtain ⟨rfl, n, os, rfl⟩ := hr
 have hms : ([x].mergeSort fun x y => decide (x ≤ y)) = [x] := by simp [List.mergeSort]
 rw [hms]
 have hat : (Sort.grow (Sort.putRow (Value.int .i64) (Sort.ahead w n) g 0 [x].toArray) os).heap[g]? = some (.cells (Sort.putCells (Value.int .i64) 0 [x].toArray cur) 3 (0, 0)) := by
  rw [Sort.heap_grow_old _ _ (by simpa using hgl)]
  unfold Sort.putRow Sort.mapBlock
  simp only [Sort.heap_ahead, Array.getElem?_modify, if_true, hg, Option.map_some, Sort.onCells]
 refine ⟨rfl, ⟨rfl, rfl, rfl, by simp, fun k hk hne => ?_⟩, aQ hat ?_⟩
 ·have hne : k ≠ g := fun e => hne (by rw [e])
  rw [Sort.heap_grow_old _ _ (by simpa using hk)]
  unfold Sort.putRow Sort.mapBlock
  simp only [Sort.heap_ahead, Array.getElem?_modify]
  rw [if_neg (fun e => hne e.symm)]
 ·unfold Sort.putCells
  rw [Array.getElem?_mapIdx, h0]
  simp
theorem MI.push {l : List RO} {B A : Nat} {P : Nat → Nat} {k : Nat} {wr : World} {w trn us : Nat → Int} (h : MI l B A P k wr w trn us) (hk : k < l.length) (hs : B ≤ wr.heap.size) (o1 : Obj) :
  MI l B A (fun j => if j = k then wr.heap.size + 1 else P j) (k + 1) (((wr.setCell ⟨A, k, none⟩ (.pointer (some ⟨wr.heap.size + 1, 0, none⟩))).alloc o1).alloc (.cells (gn (_root_.Go.Proofs.YtlnlichdidobpaaGreatDoor.Turns.cq l k) (w k) (trn k) (us k) k).toArray 45)) w trn us := by
 have hs0 : (wr.setCell ⟨A, k, none⟩ (.pointer (some ⟨wr.heap.size + 1, 0, none⟩))).heap.size = wr.heap.size := by simp [World.setCell]
 obtain ⟨cur, h1, h2, h3⟩ := h.all
 have hA := h.Tj
 have hA2 : (wr.setCell ⟨A, k, none⟩ (.pointer (some ⟨wr.heap.size + 1, 0, none⟩))).heap[A]? = some (.cells (cur.setIfInBounds k (.pointer (some ⟨wr.heap.size + 1, 0, none⟩))) 43 (0, 0)) := by
  unfold World.setCell
  simp [Array.getElem?_modify, h1]
 have hP2 : ∀ b, b ≠ A → (wr.setCell ⟨A, k, none⟩ (.pointer (some ⟨wr.heap.size + 1, 0, none⟩))).heap[b]? = wr.heap[b]? := fun b hb => bd (w := wr) hb
 generalize wr.setCell ⟨A, k, none⟩ (.pointer (some ⟨wr.heap.size + 1, 0, none⟩)) = wS at *
 have hs1 : (wS.alloc o1).heap.size = wr.heap.size + 1 := by simp [hs0]
 have hkeep : ∀ b, b < wr.heap.size → ((wS.alloc o1).alloc (.cells (gn (_root_.Go.Proofs.YtlnlichdidobpaaGreatDoor.Turns.cq l k) (w k) (trn k) (us k) k).toArray 45)).heap[b]? = wS.heap[b]? := fun b hb => (heap_alloc_old (wS.alloc o1) _ (by omega)).trans (heap_alloc_old wS o1 (by omega))
 have hne : ∀ j, j < k → P j ≠ wr.heap.size + 1 := fun j hj e => by
  have := h.lt hj
  omega
 have hnew : ((wS.alloc o1).alloc (.cells (gn (_root_.Go.Proofs.YtlnlichdidobpaaGreatDoor.Turns.cq l k) (w k) (trn k) (us k) k).toArray 45)).heap[wr.heap.size + 1]? = some (.cells (gn (_root_.Go.Proofs.YtlnlichdidobpaaGreatDoor.Turns.cq l k) (w k) (trn k) (us k) k).toArray 45 (0, 0)) := by
  rw [← hs1]
  exact iM _ _
 refine ⟨⟨_, (hkeep A hA).trans hA2, by simp [h2], fun j hj => ?_⟩, fun j hj => ?_, fun i j hi hj e => ?_, h.Vq, fun j hj => ?_⟩
 ·rw [Array.getElem?_setIfInBounds]
  by_cases e : j = k
  ·subst e
   rw [if_pos rfl, if_pos (by omega)]
   simp
  ·rw [if_neg (fun e' => e e'.symm), h3 j (by omega)]
   simp [e]
 ·by_cases e : j = k
  ·subst e
   simp only [if_true]
   exact hnew
  ·simp only [if_neg e]
   rw [hkeep (P j) (h.lt (by omega)), hP2 (P j) (h.SS j (by omega)).2]
   exact h.cq j (by omega)
 ·have e : (if i = k then wr.heap.size + 1 else P i) = (if j = k then wr.heap.size + 1 else P j) := e
  by_cases e1 : i = k
  ·by_cases e2 : j = k
   ·omega
   ·rw [if_pos e1, if_neg e2] at e
    exact absurd e.symm (hne j (by omega))
  ·by_cases e2 : j = k
   ·rw [if_neg e1, if_pos e2] at e
    exact absurd e (hne i (by omega))
   ·rw [if_neg e1, if_neg e2] at e
    exact h.inj i j (by omega) (by omega) e
 ·by_cases e : j = k
  ·simp only [if_pos e]
   omega
  ·simp only [if_neg e]
   exact h.SS j (by omega)
def pQ (w : World) (x : Value) (ids : List Nat) : Prop := (ids = [] ∧ ∃ a c, x = .slice a 0 c) ∨ ∃ (k g c : Nat), ids = [k] ∧ x = .slice (some ⟨g, 0, none⟩) 1 c ∧ w.cell? ⟨g, 0, none⟩ = some (.int .i64 k)
def pO (B A : Nat) (P : Nat → Nat) (n : Nat) (w : World) (v15 x : Value) (ids : List Nat) : Prop := (ids = [] ∧ ∃ a c, x = .slice a 0 c) ∨ ∃ (k g c : Nat), ids = [k] ∧ x = .slice (some ⟨g, 0, none⟩) 1 c ∧ w.cell? ⟨g, 0, none⟩ = some (.int .i64 k) ∧ g ≠ A ∧ (∀ j, j < n → g ≠ P j) ∧ v15.ownBlock ≠ some g
theorem pO.r {B A n : Nat} {P : Nat → Nat} {w : World} {v x : Value} {ids : List Nat} (h : pO B A P n w v x ids) : pQ w x ids := by
 rcases h with h | ⟨k, g, c, h1, h2, h3, _⟩
 ·exact .inl h
 ·exact .inr ⟨k, g, c, h1, h2, h3⟩
structure OI (l : List RO) (sl : Int) (w : World) (A : Nat) (P : Nat → Nat) (wr : World) (t : Nat) (v14 v15 : Value) : Prop where
 st : ∃ trn turn, v14 = .int .i64 turn ∧ 0 ≤ turn ∧ turn ≤ t * 100 ∧ CI l t 0 (qs l sl t).L (qs l sl t).w trn turn ∧ MI l w.heap.size A P l.length wr (qs l sl t).w trn (fun k => (qs l sl t).u k % sl)
 out : ∃ xs, wr.ownsRow w.heap.size 28 1 v15 t xs ∧ ∀ i, i < t → ∃ x, xs[i]? = some x ∧ pO w.heap.size A P l.length wr v15 x (Gg l sl i)
 ap : ∀ g, v15.ownBlock = some g → g ≠ A ∧ ∀ k, k < l.length → g ≠ P k
 bl : Below w.heap.size w wr
 bs : w.heap.size ≤ wr.heap.size
section
variable {l : List RO} {sl : Int} {w : World} {A : Nat} {P : Nat → Nat} {wr w5 w6 : World} {t : Nat} {v14 v15 : Value}
theorem xZ {B : Nat} {e : TypeId} {v : Value} {n : Nat} {xs : List Value} {w w' : World} (h : w.ownsRow B e 1 v n xs) (hb : ∀ g, v.ownBlock = some g → g < w.heap.size → w'.heap[g]? = w.heap[g]?) : w'.ownsRow B e 1 v n xs :=
 eY h fun g hg => hb g hg (h.lt g hg).2
theorem OI.rows (h : OI l sl w A P wr t v14 v15) (hts : TS P l.length wr w5) : ∃ xs, w5.ownsRow w.heap.size 28 1 v15 t xs ∧ ∀ i, i < t → ∃ x, xs[i]? = some x ∧ pO w.heap.size A P l.length w5 v15 x (Gg l sl i) := by
 obtain ⟨xs, h1, h2⟩ := h.out
 refine ⟨xs, xZ h1 fun g hg hl => hts.tm g hl (fun k hk => (h.ap g hg).2 k hk), fun i hi => ?_⟩
 obtain ⟨x, hx, hi2⟩ := h2 i hi
 refine ⟨x, hx, ?_⟩
 rcases hi2 with hn | ⟨k, g, c, e1, e2, e3, e4, e5, e6⟩
 ·exact .inl hn
 ·exact .inr ⟨k, g, c, e1, e2, (World.cell?_of_block (w := wr) (a := ⟨g, 0, none⟩) (hts.tm g (bV e3) e5)).trans e3, e4, e5, e6⟩
theorem OI.below (h : OI l sl w A P wr t v14 v15) (hts : TS P l.length wr w5) : Below w.heap.size w w5 := by
 obtain ⟨trn, turn, _, _, _, _, hm⟩ := h.st
 exact ⟨hts.os.trans h.bl.os, hts.tape.trans h.bl.tape, hts.output.trans h.bl.output, Nat.le_trans h.bl.size hts.size, fun k hk => (hts.tm k (Nat.lt_of_lt_of_le hk h.bs) (fun j hj e => by have := (hm.SS j hj).1; omega)).trans (h.bl.block k hk)⟩
theorem OI.next (h : OI l sl w A P wr t v14 v15) (hts : TS P l.length wr w5) {xs : List Value} {x v' : Value} {turn' : Int} {trn' : Nat → Int} (h0 : 0 ≤ turn') (h1 : turn' ≤ ((t + 1 : Nat) : Int) * 100)
  (hC : CI l ((t : Int) + 1) 0 (qs l sl (t + 1)).L (qs l sl (t + 1)).w trn' turn') (hM : MI l w.heap.size A P l.length w5 (qs l sl (t + 1)).w trn' (fun k => (qs l sl (t + 1)).u k % sl))
  (hlen : xs.length = t) (hin : ∀ i, i < t → ∃ x, xs[i]? = some x ∧ pO w.heap.size A P l.length w5 v15 x (Gg l sl i))
  (hg : w5.grownBy w6 v15.ownBlock) (hown : w6.ownsRow w.heap.size 28 1 v' (t + 1) (xs ++ [x])) (hat : v'.ownBlock = v15.ownBlock ∨ ∃ g, v'.ownBlock = some g ∧ w5.heap.size ≤ g)
  (hx : (Gg l sl t = [] ∧ ∃ a c, x = .slice a 0 c) ∨ ∃ (k g c : Nat), Gg l sl t = [k] ∧ x = .slice (some ⟨g, 0, none⟩) 1 c ∧ w5.cell? ⟨g, 0, none⟩ = some (.int .i64 k) ∧ wr.heap.size ≤ g) : OI l sl w A P w6 (t + 1) (.int .i64 turn') v' := by
 obtain ⟨ys, hys, _⟩ := h.out
 have hAl : A < wr.heap.size := by
  obtain ⟨trn, turn, _, _, _, _, hm⟩ := h.st
  exact hm.Tj
 have hPl : ∀ k, k < l.length → P k < wr.heap.size := fun k hk => by
  obtain ⟨trn, turn, _, _, _, _, hm⟩ := h.st
  exact hm.lt hk
 have hv15 : ∀ g, v15.ownBlock = some g → g < wr.heap.size := fun g hg => (hys.lt g hg).2
 have hkeep : ∀ (y : Value) ids, pO w.heap.size A P l.length w5 v15 y ids → pO w.heap.size A P l.length w6 v' y ids := fun y ids hy => by
  rcases hy with hn | ⟨k, g, c, e1, e2, e3, e4, e5, e6⟩
  ·exact .inl hn
  ·refine .inr ⟨k, g, c, e1, e2, (World.cell?_of_block (w := w5) (a := ⟨g, 0, none⟩) (hg.block g (bV e3) (fun e => e6 e.symm))).trans e3, e4, e5, fun e => ?_⟩
   rcases hat with ha | ⟨g', ha, hge⟩
   ·exact e6 (ha.symm.trans e)
   ·rw [ha] at e
    injection e with e
    have := bV e3
    omega
 refine ⟨⟨trn', turn', rfl, h0, h1, by rw [Int.natCast_add]; exact hC, hM.grown hg fun g hgv => h.ap g hgv⟩, ⟨_, hown, fun i hi => ?_⟩, fun g hgv => ?_, (h.below hts).grown hg (Nat.le_trans h.bs hts.size) (fun k hk => (hys.lt k hk).1), Nat.le_trans h.bs (Nat.le_trans hts.size hg.size)⟩
 ·by_cases e : i = t
  ·subst e
   refine ⟨x, by rw [List.getElem?_append_right (by omega), hlen, Nat.sub_self]; rfl, hkeep _ _ ?_⟩
   rcases hx with hn | ⟨k, g, c, e1, e2, e3, e4⟩
   ·exact .inl hn
   ·exact .inr ⟨k, g, c, e1, e2, e3, by omega, fun j hj => by have := hPl j hj; omega, fun e => by have := hv15 g e; omega⟩
  ·obtain ⟨y, hy, hi2⟩ := hin i (by omega)
   exact ⟨y, by rw [List.getElem?_append_left (by omega)]; exact hy, hkeep _ _ hi2⟩
 ·rcases hat with ha | ⟨g', ha, hge⟩
  ·exact h.ap g (ha.symm.trans hgv)
  ·rw [ha] at hgv
   injection hgv with hgv
   subst hgv
   have := hts.size
   exact ⟨by omega, fun k hk => by have := hPl k hk; omega⟩
end
end Go.Proofs.YtlnlichdidobpaaGreatDoor.Turns
namespace Go.Proofs.YtlnlichdidobpaaGreatDoor.Turns
set_option maxRecDepth 100000
set_option maxHeartbeats 4000000
set_option linter.unusedSimpArgs false
set_option linter.unusedVariables false
open Go Go.Proofs Go.Shelf Go.RowKit
theorem CU {l : List RO} {t : Nat} {L : List Nat} {w trn : Nat → Int} {turn : Int} (h : CI l t 0 L w trn turn) (h0 : 0 ≤ turn) : ∀ k, k ≤ l.length → ∃ trn turn, 0 ≤ turn ∧ CI l t k (arr l t k L) w trn turn
 | 0, _ => ⟨trn, turn, h0, h⟩
 | k + 1, hk => by
  obtain ⟨trn', turn', h1, h2⟩ := CU h h0 k (by omega)
  by_cases hc : (cq l k).1 = t
  ·rw [qo hc]
   exact ⟨_, _, by omega, h2.SC hc (by omega)⟩
  ·rw [uQ hc]
   exact ⟨_, _, h1, h2.skip hc⟩
theorem PY {l : List RO} (hl : ∀ o ∈ l, Ls o) {sl : Int} : ∀ t : Nat, ∃ trn turn, 0 ≤ turn ∧ CI l t 0 (qs l sl t).L (qs l sl t).w trn turn
 | 0 => ⟨_, _, Int.le_refl _, CI.start hl⟩
 | t + 1 => by
  obtain ⟨trn, turn, h0, h1⟩ := PY hl (sl := sl) t
  obtain ⟨trn, turn, h0, h1⟩ := CU h1 h0 l.length (Nat.le_refl _)
  have e : qs l sl (t + 1) = zr l sl (qs l sl t).w (qs l sl t).u (arr l t l.length (qs l sl t).L) := rfl
  rw [e]
  generalize arr l t l.length (qs l sl t).L = M at h1
  cases M with
  | nil => exact ⟨trn, turn, h0, h1.idle⟩
  | cons j r =>
   by_cases hb : ((qs l sl t).u j + 1) % sl = 0
   ·refine ⟨_, _, ?_, (show CI l ((t : Int) + 1) 0 (if 0 < (qs l sl t).w j - 1 then (if ((qs l sl t).u j + 1) % sl = 0 then ins l j r else j :: r) else r) (bP (qs l sl t).w j ((qs l sl t).w j - 1)) _ _ from by
     rw [if_pos hb]
     exact h1.run true h0)⟩
    show 0 ≤ turn + 1
    omega
   ·exact ⟨_, _, h0, (show CI l ((t : Int) + 1) 0 (if 0 < (qs l sl t).w j - 1 then (if ((qs l sl t).u j + 1) % sl = 0 then ins l j r else j :: r) else r) (bP (qs l sl t).w j ((qs l sl t).w j - 1)) _ _ from by
     rw [if_neg hb]
     exact h1.run false h0)⟩
def Lr (ops : List RO) : List Value := (ops.map fun o => [Value.int .i64 o.1, .int .i64 o.2.1, .int .i64 o.2.2]).flatten
theorem Kk (ops : List RO) (o : RO) : Lr (ops ++ [o]) = Lr ops ++ [.int .i64 o.1, .int .i64 o.2.1, .int .i64 o.2.2] := by simp [Lr]
theorem KR : ∀ (ops : List RO) (i : Nat) (o : RO), ops[i]? = some o → (Lr ops)[i * 3]? = some (.int .i64 o.1) ∧ (Lr ops)[i * 3 + 1]? = some (.int .i64 o.2.1) ∧ (Lr ops)[i * 3 + 2]? = some (.int .i64 o.2.2)
 | [], i, o, h => by cases h
 | p :: ops, 0, o, h => by
  cases h
  exact ⟨rfl, rfl, rfl⟩
 | p :: ops, i + 1, o, h => by
  have := KR ops i o h
  have e : Lr (p :: ops) = .int .i64 p.1 :: .int .i64 p.2.1 :: .int .i64 p.2.2 :: Lr ops := rfl
  rw [e, show (i + 1) * 3 = i * 3 + 1 + 1 + 1 by omega]
  exact this
def nk (W : World) (g n : Nat) (f : Nat → Int) : Prop := ∃ cur, W.heap[g]? = some (.cells cur 3 (0, 0)) ∧ cur.size = n ∧ ∀ k, k < n → cur[k]? = some (.int .i64 (f k))
theorem nk.cell {W : World} {g n k : Nat} {f : Nat → Int} (h : nk W g n f) (hk : k < n) : W.cell? ⟨g, k, none⟩ = some (.int .i64 (f k)) := by
 obtain ⟨cur, h1, _, h3⟩ := h
 exact aQ h1 (h3 k hk)
theorem nk.fz {W : World} {g n : Nat} {f : Nat → Int} (h : nk W g n f) (j : Nat) : W.frozen? ⟨g, j, none⟩ = false := by
 obtain ⟨cur, h1, _, _⟩ := h
 simp [World.frozen?, h1]
theorem nk.keep {W W' : World} {g n : Nat} {f : Nat → Int} (h : nk W g n f) (hk : W'.heap[g]? = W.heap[g]?) : nk W' g n f := by
 obtain ⟨cur, h1, h2, h3⟩ := h
 exact ⟨cur, hk.trans h1, h2, h3⟩
theorem nk.lt {W : World} {g n : Nat} {f : Nat → Int} (h : nk W g n f) : g < W.heap.size := by
 obtain ⟨cur, h1, _, _⟩ := h
 exact (Array.getElem?_eq_some_iff.1 h1).1
theorem nk.set {W : World} {g n k : Nat} {f : Nat → Int} (h : nk W g n f) (hk : k < n) (x : Int) : nk (W.setCell ⟨g, k, none⟩ (.int .i64 x)) g n (bP f k x) := by
 obtain ⟨cur, h1, h2, h3⟩ := h
 refine ⟨cur.setIfInBounds k (.int .i64 x), ?_, by simp [h2], fun j hj => ?_⟩
 ·unfold World.setCell
  simp [Array.getElem?_modify, h1]
 ·rw [Array.getElem?_setIfInBounds]
  by_cases e : j = k
  ·subst e
   rw [if_pos rfl, if_pos (by omega), cw]
  ·rw [if_neg (fun e' => e e'.symm), h3 j hj, cc _ _ e]
structure TI (l : List RO) (w1 : World) (gL gU : Nat) (W : World) (f u : Nat → Int) (v11 : Value) (ops : List RO) (L : List Nat) : Prop where
 rl : nk W gL l.length f
 ru : nk W gU l.length u
 ne : gL ≠ gU
 lo : w1.heap.size ≤ gL ∧ w1.heap.size ≤ gU
 own : W.ownsRow w1.heap.size 33 3 v11 ops.length (Lr ops)
 ap : v11.ownBlock ≠ some gL ∧ v11.ownBlock ≠ some gU
 ch : sQ ops (qL l L)
 bl : Below w1.heap.size w1 W
 bs : w1.heap.size ≤ W.heap.size
section
variable {l : List RO} {w1 : World} {gL gU : Nat} {W W' : World} {f u : Nat → Int} {v11 : Value} {ops : List RO} {L : List Nat}
theorem rG {B : Nat} {e : TypeId} {s : Nat} {v : Value} {n : Nat} {xs : List Value} {w w' : World} (h : w.ownsRow B e s v n xs) (hb : ∀ g, v.ownBlock = some g → w'.heap[g]? = w.heap[g]?) : w'.ownsRow B e s v n xs := by
 refine ⟨h.1, ?_⟩
 rcases h.2 with hn | ⟨g, cap, cur, rfl, h1, h2, h3⟩
 ·exact .inl hn
 ·exact .inr ⟨g, cap, cur, rfl, h1, (hb g rfl).trans h2, h3⟩
theorem TI.below (h : TI l w1 gL gU W f u v11 ops L) (hb : Below W.heap.size W W') : TI l w1 gL gU W' f u v11 ops L :=
 ⟨h.rl.keep (hb.block _ h.rl.lt), h.ru.keep (hb.block _ h.ru.lt), h.ne, h.lo, rG h.own (fun g hg => hb.block g (h.own.lt g hg).2), h.ap, h.ch,
  ⟨hb.os.trans h.bl.os, hb.tape.trans h.bl.tape, hb.output.trans h.bl.output, Nat.le_trans h.bl.size hb.size, fun k hk => (hb.block k (Nat.lt_of_lt_of_le hk h.bs)).trans (h.bl.block k hk)⟩, Nat.le_trans h.bs hb.size⟩
theorem TI.alloc (h : TI l w1 gL gU W f u v11 ops L) (o : Obj) : TI l w1 gL gU (W.alloc o) f u v11 ops L := h.below ((Below.refl _ W).alloc (Nat.le_refl _) o)
theorem TI.xb (h : TI l w1 gL gU W f u v11 ops L) {k : Nat} (hk : k < l.length) (x : Int) : TI l w1 gL gU (W.setCell ⟨gL, k, none⟩ (.int .i64 x)) (bP f k x) u v11 ops L := by
 have hs : (W.setCell ⟨gL, k, none⟩ (.int .i64 x)).heap.size = W.heap.size := by simp [World.setCell]
 exact ⟨h.rl.set hk x, h.ru.keep (bd (w := W) (fun e => h.ne e.symm)), h.ne, h.lo, rG h.own (fun g hg => bd (w := W) (fun e => h.ap.1 (by rw [hg, e]))), h.ap, h.ch,
  ⟨h.bl.os, h.bl.tape, h.bl.output, by rw [hs]; exact h.bl.size, fun j hj => (bd (w := W) (by have := h.lo.1; omega)).trans (h.bl.block j hj)⟩, by rw [hs]; exact h.bs⟩
theorem TI.Vs (h : TI l w1 gL gU W f u v11 ops L) {k : Nat} (hk : k < l.length) (x : Int) : TI l w1 gL gU (W.setCell ⟨gU, k, none⟩ (.int .i64 x)) f (bP u k x) v11 ops L := by
 have hs : (W.setCell ⟨gU, k, none⟩ (.int .i64 x)).heap.size = W.heap.size := by simp [World.setCell]
 exact ⟨h.rl.keep (bd (w := W) h.ne), h.ru.set hk x, h.ne, h.lo, rG h.own (fun g hg => bd (w := W) (fun e => h.ap.2 (by rw [hg, e]))), h.ap, h.ch,
  ⟨h.bl.os, h.bl.tape, h.bl.output, by rw [hs]; exact h.bl.size, fun j hj => (bd (w := W) (by have := h.lo.2; omega)).trans (h.bl.block j hj)⟩, by rw [hs]; exact h.bs⟩
theorem TI.snoc (h : TI l w1 gL gU W f u v11 ops L) {o : RO} {L' : List Nat} {v' : Value} (hr : Rel (qL l L) o (qL l L')) (hg : W.grownBy W' v11.ownBlock) (hown : W'.ownsRow w1.heap.size 33 3 v' (ops.length + 1) (Lr ops ++ [.int .i64 o.1, .int .i64 o.2.1, .int .i64 o.2.2]))
  (hat : v'.ownBlock = v11.ownBlock ∨ ∃ g, v'.ownBlock = some g ∧ W.heap.size ≤ g) : TI l w1 gL gU W' f u v' (ops ++ [o]) L' := by
 have hl1 := h.rl.lt
 have hl2 := h.ru.lt
 refine ⟨h.rl.keep (hg.block _ hl1 (fun e => h.ap.1 e.symm)), h.ru.keep (hg.block _ hl2 (fun e => h.ap.2 e.symm)), h.ne, h.lo, by rw [List.length_append, Kk]; exact hown, ?_, h.ch.snoc hr, h.bl.grown hg h.bs (fun k hk => (h.own.lt k hk).1), Nat.le_trans h.bs hg.size⟩
 rcases hat with ha | ⟨g, ha, hge⟩
 ·rw [ha]
  exact h.ap
 ·rw [ha]
  refine ⟨fun e => ?_, fun e => ?_⟩
  ·injection e with e
   omega
  ·injection e with e
   omega
theorem TI.rowAt (h : TI l w1 gL gU W f u v11 ops L) : ∃ A c, v11 = .slice A ops.length c ∧ s4 W A ops ∧ ops.length ≤ c := by
 rcases h.own.2 with ⟨hv, h0⟩ | ⟨g, cap, cur, hv, _, hg, hnc, _, _, ht⟩
 ·have : ops = [] := List.eq_nil_of_length_eq_zero h0
  subst this
  exact ⟨none, 0, hv, And.intro (fun i o hi => absurd hi (by simp)) (Nat.le_refl _)⟩
 ·refine ⟨some ⟨g, 0, none⟩, cap, hv, fun i o hi => ?_, hnc⟩
  have hil : i < ops.length := (List.getElem?_eq_some_iff.1 hi).1
  have hc : ∀ j v, (Lr ops)[j]? = some v → W.cell? ⟨g, 0 + j, none⟩ = some v := fun j v hj => by
   rw [← ht, List.getElem?_take] at hj
   split at hj
   ·rw [Array.getElem?_toList] at hj
    rw [Nat.zero_add]
    exact aQ hg hj
   ·cases hj
  obtain ⟨c0, c1, c2⟩ := KR ops i o hi
  exact ⟨g, 0, rfl, (Array.getElem?_eq_some_iff.1 hg).1, hc _ _ c0, hc _ _ c1, hc _ _ c2⟩
theorem sQ.T5 (h : sQ ops (qL l L)) {W : World} {A : Option Addr} {c : Nat} (hr : s4 W A ops) (hlen : ops.length ≤ 1000000) (hc : ops.length ≤ c) (hL : L.length ≤ 1000000) (hs : L.Pairwise (fun a b => lvl l b ≤ lvl l a)) (h1 : ∀ j ∈ L, 0 ≤ lvl l j ∧ lvl l j < 32) :
  Calls Tryz.prog 6 #[.slice A ops.length c] W fun e w' => ∃ v6 v7 v8, e = .returned (.tuple #[v6, v7, v8]) ∧ w'.ownsRow W.heap.size 3 1 v8 L.length (bq (L.map fun k : Nat => (k : Int))) ∧ Below W.heap.size W w' := by
 obtain ⟨Lf, g0, g1, g2⟩ := h.lists
 refine (Fz ops Lf g0 g1 A c W hlen hc (fun i _ => by rw [g2]; exact Nat.le_trans (Dg _ _) hL) hr).mono fun e w' ⟨v6, v7, v8, k1, k2, k3⟩ => ⟨v6, v7, v8, k1, ?_, k3⟩
 rw [g2, N3 hs h1] at k2
 rw [List.length_map] at k2
 exact k2
end
theorem nk.zero {W : World} {B g n : Nat} (h : W.ownsRow B 3 1 (.slice (some ⟨g, 0, none⟩) n n) n (madeCells (Value.int .i64 0).cells (n * 1)).toList) : nk W g n fun _ => 0 := by
 rcases h.2 with ⟨h', _⟩ | ⟨g', cap', cur, h', _, hg, _, _, hs, ht⟩
 ·cases h'
 ·injection h' with h1 _ h2
  injection h1 with h1
  injection h1 with h1
  subst h1 h2
  rw [Nat.mul_one] at ht hs
  refine ⟨cur, hg, hs, fun k hk => ?_⟩
  have e : (madeCells (Value.int .i64 0).cells n).toList = List.replicate n (Value.int .i64 0) := toList_madeCells_one _ n
  have h3 := congrArg (fun l => l[k]?) (ht.trans e)
  simp only [List.getElem?_take, Array.getElem?_toList, List.getElem?_replicate, if_pos hk] at h3
  exact h3
theorem TI.start {l : List RO} {w1 wa wb : World} (ha : wa.ownsRow w1.heap.size 3 1 (.slice (some ⟨w1.drew.heap.size, 0, none⟩) l.length l.length) l.length (madeCells (Value.int .i64 0).cells (l.length * 1)).toList) (hga : w1.drew.grownBy wa none)
  (hb : wb.ownsRow w1.heap.size 3 1 (.slice (some ⟨wa.heap.size, 0, none⟩) l.length l.length) l.length (madeCells (Value.int .i64 0).cells (l.length * 1)).toList) (hgb : wa.grownBy wb none) :
  TI l w1 w1.heap.size wa.heap.size wb (fun _ => 0) (fun _ => 0) (.slice none 0 0) [] [] ∧ TI l w1 wa.heap.size w1.heap.size wb (fun _ => 0) (fun _ => 0) (.slice none 0 0) [] [] := by
 have r1 := nk.zero ha
 have r2 := nk.zero hb
 have h1 : w1.heap.size < wa.heap.size := r1.lt
 have r3 := r1.keep (hgb.block w1.heap.size h1 (fun e => by cases e))
 have hbl : Below w1.heap.size w1 wb := ⟨hgb.os.trans hga.os, hgb.tape.trans hga.tape, hgb.output.trans hga.output, Nat.le_trans hga.size hgb.size, fun k hk => (hgb.block k (by omega) (fun e => by cases e)).trans (hga.block k hk (fun e => by cases e))⟩
 have hbs : w1.heap.size ≤ wb.heap.size := hbl.size
 exact ⟨⟨r3, r2, by omega, ⟨by omega, by omega⟩, World.ownsRow_nil _ _ _ _, ⟨(fun e => by cases e), (fun e => by cases e)⟩, .nil, hbl, hbs⟩, ⟨r2, r3, by omega, ⟨by omega, by omega⟩, World.ownsRow_nil _ _ _ _, ⟨(fun e => by cases e), (fun e => by cases e)⟩, .nil, hbl, hbs⟩⟩
theorem DT {l : List RO} {k : Nat} (h : k < l.length) : l[k]? = some (cq l k) := by
 unfold cq
 rw [List.getD_eq_getElem?_getD, List.getElem?_eq_getElem h]
 rfl
theorem RH {C : Prop} (F P : Value → Value → World → Prop) (key : ∀ x y W, F x y W → P x y W) (use : (∀ x y W, F x y W → P x y W) → C) : C := use key
end Go.Proofs.YtlnlichdidobpaaGreatDoor.Turns
