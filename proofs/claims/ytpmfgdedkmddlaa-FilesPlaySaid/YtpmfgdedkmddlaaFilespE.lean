/-
  The conditions that the executor comes to, written out (by a tool of ours), and that they are the conditions (by the kernel).
-/
import Derived.Test.YtpmfgdedkmddlaaFilespC
namespace Go.Proofs.Ytpmfgdedkmddlaa.Filesp
open Go.Sx
set_option maxRecDepth 100000

def E_equal (x : List (Int × Int) × List (Int × Int) × Unit) : Prop :=
 (((↑x.1.length : Int) != (↑x.2.1.length : Int)) = true → false = decide (x.1 = x.2.1)) ∧
 (((↑x.1.length : Int) != (↑x.2.1.length : Int)) = false →
 ((((0 : Int) ≤ (0 : Int) ∧
 (0 : Int) ≤ (↑x.1.length : Int) ∧ List.take (Int.toNat (0 : Int)) x.1 = List.take (Int.toNat (0 : Int)) x.2.1) ∧
 True) ∧
 (x.1 = x.1 ∧ x.2.1 = x.2.1 ∧ (↑x.1.length : Int) = (↑x.1.length : Int) ∧ (0 : Int) = (0 : Int) ∧ True) ∧ True ∧ True) ∧
 ∀ (g : Int × Unit),
 (0 : Int) ≤ g.1 ∧ g.1 ≤ (↑x.1.length : Int) ∧ List.take g.1.toNat x.1 = List.take g.1.toNat x.2.1 →
 ((-9223372036854775808 : Int) ≤ g.1 ∧ g.1 ≤ (9223372036854775807 : Int)) ∧ True →
 (decide (g.1 < (↑x.1.length : Int)) = true →
 ((0 : Int) ≤ g.1 ∧ g.1 < (↑x.1.length : Int)) ∧
 ((0 : Int) ≤ g.1 ∧ g.1 < (↑x.2.1.length : Int)) ∧
 ((!deq ((Ty.int IntKind.i64).pair (Ty.int IntKind.i64))
 ((x.1.getD g.1.toNat ((0 : Int), (0 : Int))).1, (x.1.getD g.1.toNat ((0 : Int), (0 : Int))).2)
 ((x.2.1.getD g.1.toNat ((0 : Int), (0 : Int))).1, (x.2.1.getD g.1.toNat ((0 : Int), (0 : Int))).2)) =
 true →
 false = decide (x.1 = x.2.1)) ∧
 ((!deq ((Ty.int IntKind.i64).pair (Ty.int IntKind.i64))
 ((x.1.getD g.1.toNat ((0 : Int), (0 : Int))).1, (x.1.getD g.1.toNat ((0 : Int), (0 : Int))).2)
 ((x.2.1.getD g.1.toNat ((0 : Int), (0 : Int))).1, (x.2.1.getD g.1.toNat ((0 : Int), (0 : Int))).2)) =
 false →
 ((-9223372036854775808 : Int) ≤ g.1 + (1 : Int) ∧ g.1 + (1 : Int) ≤ (9223372036854775807 : Int)) ∧
 (((0 : Int) ≤ g.1 + (1 : Int) ∧
 g.1 + (1 : Int) ≤ (↑x.1.length : Int) ∧
 List.take (g.1 + (1 : Int)).toNat x.1 = List.take (g.1 + (1 : Int)).toNat x.2.1) ∧
 ((↑x.1.length : Int) - (g.1 + (1 : Int))).toNat < ((↑x.1.length : Int) - g.1).toNat) ∧
 (x.1 = x.1 ∧
 x.2.1 = x.2.1 ∧
 (↑x.1.length : Int) = (↑x.1.length : Int) ∧ g.1 + (1 : Int) = g.1 + (1 : Int) ∧ True) ∧
 True ∧ True)) ∧
 (decide (g.1 < (↑x.1.length : Int)) = false → true = decide (x.1 = x.2.1)))

theorem E_equal_eq (x : HL (cEqual : Ctr).as) : vc (fx_equal x) 1 14 Try.f14 (cEqual) x = E_equal x := by kernel_rfl

def E_least (x : Int × List (Int × List Int) × Unit) : Prop :=
 ((((0 : Int) ≤ (0 : Int) ∧
 (0 : Int) ≤ (16 : Int) ∧ x.2.1 = x.2.1 ∧ List.idxOf? (-1 : Int) (List.take (Int.toNat (0 : Int)) (tbOf x.2.1 x.1)) = none) ∧
 True) ∧
 (x.1 = x.1 ∧ (0 : Int) = (0 : Int) ∧ True) ∧ (x.2.1 = x.2.1 ∧ True) ∧ True) ∧
 ∀ (g : Int × List (Int × List Int) × Unit),
 (0 : Int) ≤ g.1 ∧ g.1 ≤ (16 : Int) ∧ g.2.1 = x.2.1 ∧ List.idxOf? (-1 : Int) (List.take g.1.toNat (tbOf g.2.1 x.1)) = none →
 ((-9223372036854775808 : Int) ≤ g.1 ∧ g.1 ≤ (9223372036854775807 : Int)) ∧
 ((List.map (fun x ↦ x.1) g.2.1).Nodup ∧
 ∀ (e : Int × List Int),
 e ∈ g.2.1 → (0 : Int) ≤ e.1 ∧ e.2.length = (16 : Nat) ∧ ∀ (x : Int), x ∈ e.2 → (0 : Int) ≤ x + (1 : Int) ∧ True) ∧
 True →
 (decide (g.1 < (16 : Int)) = true →
 (0 : Int) ≤ x.1 ∧
 ((0 : Int) ≤ g.1 ∧ g.1 < (↑(16 : Nat) : Int)) ∧
 mhas TB g.2.1 x.1 = true ∧
 (decide (List.getD (mval TB g.2.1 x.1) g.1.toNat (-1 : Int) < (0 : Int)) = true →
 (g.1 = (lea (tbOf x.2.1 x.1)).1 ∧ true = (lea (tbOf x.2.1 x.1)).2.1) ∧
 True ∧ (g.2.1 = x.2.1 ∧ True) ∧ True) ∧
 (decide (List.getD (mval TB g.2.1 x.1) g.1.toNat (-1 : Int) < (0 : Int)) = false →
 ((-9223372036854775808 : Int) ≤ g.1 + (1 : Int) ∧ g.1 + (1 : Int) ≤ (9223372036854775807 : Int)) ∧
 (((0 : Int) ≤ g.1 + (1 : Int) ∧
 g.1 + (1 : Int) ≤ (16 : Int) ∧
 g.2.1 = x.2.1 ∧ List.idxOf? (-1 : Int) (List.take (g.1 + (1 : Int)).toNat (tbOf g.2.1 x.1)) = none) ∧
 ((16 : Int) - (g.1 + (1 : Int))).toNat < ((16 : Int) - g.1).toNat) ∧
 (x.1 = x.1 ∧ g.1 + (1 : Int) = g.1 + (1 : Int) ∧ True) ∧ (g.2.1 = g.2.1 ∧ True) ∧ True)) ∧
 (decide (g.1 < (16 : Int)) = false →
 ((0 : Int) = (lea (tbOf x.2.1 x.1)).1 ∧ false = (lea (tbOf x.2.1 x.1)).2.1) ∧
 True ∧ (g.2.1 = x.2.1 ∧ True) ∧ True)

theorem E_least_eq (x : (pLeast : Prc).G) : vcPr (fx_least x) 1 50 Try.f50 (pLeast) x = E_least x := by kernel_rfl

def E_set (x : Int × Int × Int × List (Int × List Int) × List (Int × Int × Int × Int × Int) × Unit) : Prop :=
 (0 : Int) ≤ x.2.2.1 ∧
 mhas tyopen x.2.2.2.2.1 x.2.2.1 = true ∧
 ((-9223372036854775808 : Int) ≤ (mval tyopen x.2.2.2.2.1 x.2.2.1).2.2.2 + (1 : Int) ∧
 (mval tyopen x.2.2.2.2.1 x.2.2.1).2.2.2 + (1 : Int) ≤ (9223372036854775807 : Int)) ∧
 (0 : Int) ≤ x.2.2.1 ∧
 mhas tyopen x.2.2.2.2.1 x.2.2.1 = true ∧
 (0 : Int) ≤ x.1 ∧
 ((0 : Int) ≤ x.2.1 ∧ x.2.1 < (↑(16 : Nat) : Int)) ∧
 mhas TB x.2.2.2.1 x.1 = true ∧
 True ∧
 True ∧
 (mput TB x.2.2.2.1 x.1 (List.set (mval TB x.2.2.2.1 x.1) x.2.1.toNat x.2.2.1) =
 tset x.2.2.2.1 x.1 x.2.1 x.2.2.1 ∧
 mput tyopen x.2.2.2.2.1 x.2.2.1
 ((mval tyopen x.2.2.2.2.1 x.2.2.1).1, (mval tyopen x.2.2.2.2.1 x.2.2.1).2.1,
 (mval tyopen x.2.2.2.2.1 x.2.2.1).2.2.1,
 (mval tyopen x.2.2.2.2.1 x.2.2.1).2.2.2 + (1 : Int)) =
 inc x.2.2.2.2.1 x.2.2.1 ∧
 True) ∧
 True

theorem E_set_eq (x : (pSet : Prc).G) : vcPr (fx_set x) 1 51 Try.f51 (pSet) x = E_set x := by kernel_rfl

def E_drop (x : Int × Int × List (Int × List Int) × List (Int × Int × Int × Int × Int) × Unit) : Prop :=
 (0 : Int) ≤ x.1 ∧
 ((0 : Int) ≤ x.2.1 ∧ x.2.1 < (↑(16 : Nat) : Int)) ∧
 mhas TB x.2.2.1 x.1 = true ∧
 ((!decide (List.getD (mval TB x.2.2.1 x.1) x.2.1.toNat (-1 : Int) < (0 : Int))) = true →
 (0 : Int) ≤ List.getD (mval TB x.2.2.1 x.1) x.2.1.toNat (-1 : Int) ∧
 mhas tyopen x.2.2.2.1 (List.getD (mval TB x.2.2.1 x.1) x.2.1.toNat (-1 : Int)) = true ∧
 ((-9223372036854775808 : Int) ≤
 (mval tyopen x.2.2.2.1 (List.getD (mval TB x.2.2.1 x.1) x.2.1.toNat (-1 : Int))).2.2.2 - (1 : Int) ∧
 (mval tyopen x.2.2.2.1 (List.getD (mval TB x.2.2.1 x.1) x.2.1.toNat (-1 : Int))).2.2.2 - (1 : Int) ≤
 (9223372036854775807 : Int)) ∧
 (0 : Int) ≤ List.getD (mval TB x.2.2.1 x.1) x.2.1.toNat (-1 : Int) ∧
 mhas tyopen x.2.2.2.1 (List.getD (mval TB x.2.2.1 x.1) x.2.1.toNat (-1 : Int)) = true ∧
 (0 : Int) ≤ x.1 ∧
 ((0 : Int) ≤ x.2.1 ∧ x.2.1 < (↑(16 : Nat) : Int)) ∧
 mhas TB x.2.2.1 x.1 = true ∧
 True ∧
 True ∧
 (mput TB x.2.2.1 x.1 (List.set (mval TB x.2.2.1 x.1) x.2.1.toNat (-1 : Int)) =
 tdrop x.2.2.1 x.1 x.2.1 ∧
 mput tyopen x.2.2.2.1 (List.getD (mval TB x.2.2.1 x.1) x.2.1.toNat (-1 : Int))
 ((mval tyopen x.2.2.2.1 (List.getD (mval TB x.2.2.1 x.1) x.2.1.toNat (-1 : Int))).1,
 (mval tyopen x.2.2.2.1
 (List.getD (mval TB x.2.2.1 x.1) x.2.1.toNat (-1 : Int))).2.1,
 (mval tyopen x.2.2.2.1
 (List.getD (mval TB x.2.2.1 x.1) x.2.1.toNat (-1 : Int))).2.2.1,
 (mval tyopen x.2.2.2.1
 (List.getD (mval TB x.2.2.1 x.1) x.2.1.toNat (-1 : Int))).2.2.2 -
 (1 : Int)) =
 dec x.2.2.2.1 ((tbOf x.2.2.1 x.1).getD x.2.1.toNat (0 : Int)) ∧
 True) ∧
 True) ∧
 ((!decide (List.getD (mval TB x.2.2.1 x.1) x.2.1.toNat (-1 : Int) < (0 : Int))) = false →
 True ∧
 True ∧
 (x.2.2.1 = tdrop x.2.2.1 x.1 x.2.1 ∧
 x.2.2.2.1 = dec x.2.2.2.1 ((tbOf x.2.2.1 x.1).getD x.2.1.toNat (0 : Int)) ∧ True) ∧
 True)

theorem E_drop_eq (x : (pDrop : Prc).G) : vcPr (fx_drop x) 1 52 Try.f52 (pDrop) x = E_drop x := by kernel_rfl

def E_play (x : List (Int × Int × Int × Int × Int × Int × Int) × Unit) : Prop := ∀ (g : Int), (0 : Int) ≤ g →
 ((0 : Int) ≤ (0 : Int) ∧
 (0 : Int) < (↑(4 : Nat) : Int)) ∧
 ((((0 : Int) ≤ (0 : Int) ∧
 (0 : Int) ≤ (↑x.1.length : Int) ∧
 ∃ s, frun (List.take (Int.toNat (0 : Int)) x.1) = (s, ([] : List (Int × Int))) ∧
 FR s (g :: (-1 : Int) :: (-1 : Int) :: (-1 : Int) :: ([] : List Int)) ((g, N16) :: ([] : List (Int × List Int))) ([] : List (Int × Int × Int × Int × Int))) ∧
 True) ∧
 ((True ∧
 True) ∧
 (True ∧
 True) ∧
 True ∧
 x.1 = x.1 ∧
 RR (↑x.1.length : Int) ∧
 RR (0 : Int) ∧
 True) ∧
 ((g :: (-1 : Int) :: (-1 : Int) :: (-1 : Int) :: ([] : List Int) = g :: (-1 : Int) :: (-1 : Int) :: (-1 : Int) :: ([] : List Int) ∧
 True) ∧
 RR ([] : List (Int × Int)) ∧
 (g, N16) :: ([] : List (Int × List Int)) = (g, N16) :: ([] : List (Int × List Int)) ∧
 RR ([] : List (Int × Int × Int × Int × Int)) ∧
 (Z64 = Z64 ∧
 True) ∧
 True) ∧
 True) ∧
 ∀ (g : List Int × List (Int × Int) × Int × List (Int × List Int) × List (Int × Int × Int × Int × Int) × Unit), ((0 : Int) ≤ g.2.2.1 ∧
 g.2.2.1 ≤ (↑x.1.length : Int) ∧
 ∃ s, frun (List.take g.2.2.1.toNat x.1) = (s, g.2.1) ∧
 FR s g.1 g.2.2.2.1 g.2.2.2.2.1) →
 (g.1.length = (4 : Nat) ∧
 ∀ (x : Int), x ∈ g.1 →
 (0 : Int) ≤ x + (1 : Int) ∧
 True) ∧
 (g.2.1.length ≤ (9223372036854775807 : Nat) ∧
 ∀ (x : Int × Int), x ∈ g.2.1 →
 ((-9223372036854775808 : Int) ≤ x.1 ∧
 x.1 ≤ (9223372036854775807 : Int)) ∧
 (-9223372036854775808 : Int) ≤ x.2 ∧
 x.2 ≤ (9223372036854775807 : Int)) ∧
 ((-9223372036854775808 : Int) ≤ g.2.2.1 ∧
 g.2.2.1 ≤ (9223372036854775807 : Int)) ∧
 ((List.map (fun x ↦ x.1) g.2.2.2.1).Nodup ∧
 ∀ (e : Int × List Int), e ∈ g.2.2.2.1 →
 (0 : Int) ≤ e.1 ∧
 e.2.length = (16 : Nat) ∧
 ∀ (x : Int), x ∈ e.2 →
 (0 : Int) ≤ x + (1 : Int) ∧
 True) ∧
 ((List.map (fun x ↦ x.1) g.2.2.2.2.1).Nodup ∧
 ∀ (e : Int × Int × Int × Int × Int), e ∈ g.2.2.2.2.1 →
 (0 : Int) ≤ e.1 ∧
 ((-9223372036854775808 : Int) ≤ e.2.1 ∧
 e.2.1 ≤ (9223372036854775807 : Int)) ∧
 ((-9223372036854775808 : Int) ≤ e.2.2.1 ∧
 e.2.2.1 ≤ (9223372036854775807 : Int)) ∧
 ((-9223372036854775808 : Int) ≤ e.2.2.2.1 ∧
 e.2.2.2.1 ≤ (9223372036854775807 : Int)) ∧
 (-9223372036854775808 : Int) ≤ e.2.2.2.2 ∧
 e.2.2.2.2 ≤ (9223372036854775807 : Int)) ∧
 True →
 (decide (g.2.2.1 < (↑x.1.length : Int)) = true →
 ((0 : Int) ≤ g.2.2.1 ∧
 g.2.2.1 < (↑x.1.length : Int)) ∧
 ((!decide ((opAt x.1 g.2.2.1).1 < (1 : Int))) = true →
 (!decide ((opAt x.1 g.2.2.1).1 < (1 : Int))) = true) ∧
 ((!decide ((opAt x.1 g.2.2.1).1 < (1 : Int))) = true →
 (!decide ((opAt x.1 g.2.2.1).1 < (1 : Int))) = true) ∧
 (decide ((opAt x.1 g.2.2.1).1 < (1 : Int)) = false →
 (!decide ((opAt x.1 g.2.2.1).1 < (1 : Int))) = true) ∧
 ((decide ((opAt x.1 g.2.2.1).1 < (1 : Int)) || decide ((7 : Int) < (opAt x.1 g.2.2.1).1)) = true →
 (g.2.1.length + ((((0 : Int), (0 : Int)) :: ([] : List (Int × Int))).set (0 : Nat) ((5 : Int), (0 : Int))).length ≤ (9223372036854775807 : Nat) ∧
 (g.2.1.length + ((((0 : Int), (0 : Int)) :: ([] : List (Int × Int))).set (0 : Nat) ((5 : Int), (0 : Int))).length + (g.2.1.length + ((((0 : Int), (0 : Int)) :: ([] : List (Int × Int))).set (0 : Nat) ((5 : Int), (0 : Int))).length) / (4 : Nat) + (192 : Nat)) * (16 : Nat) ≤ (281474976710656 : Nat)) ∧
 ((-9223372036854775808 : Int) ≤ g.2.2.1 + (1 : Int) ∧
 g.2.2.1 + (1 : Int) ≤ (9223372036854775807 : Int)) ∧
 (((0 : Int) ≤ g.2.2.1 + (1 : Int) ∧
 g.2.2.1 + (1 : Int) ≤ (↑x.1.length : Int) ∧
 ∃ s, frun (List.take (g.2.2.1 + (1 : Int)).toNat x.1) = (s, g.2.1 ++ (((0 : Int), (0 : Int)) :: ([] : List (Int × Int))).set (0 : Nat) ((5 : Int), (0 : Int))) ∧
 FR s g.1 g.2.2.2.1 g.2.2.2.2.1) ∧
 ((↑x.1.length : Int) - (g.2.2.1 + (1 : Int))).toNat < ((↑x.1.length : Int) - g.2.2.1).toNat) ∧
 ((True ∧
 True) ∧
 (True ∧
 True) ∧
 True ∧
 x.1 = x.1 ∧
 RR (↑x.1.length : Int) ∧
 g.2.2.1 + (1 : Int) = g.2.2.1 + (1 : Int) ∧
 True) ∧
 ((g.1 = g.1 ∧
 True) ∧
 g.2.1 ++ (((0 : Int), (0 : Int)) :: ([] : List (Int × Int))).set (0 : Nat) ((5 : Int), (0 : Int)) = g.2.1 ++ (((0 : Int), (0 : Int)) :: ([] : List (Int × Int))).set (0 : Nat) ((5 : Int), (0 : Int)) ∧
 RR g.2.2.2.1 ∧
 RR g.2.2.2.2.1 ∧
 (Z64 = Z64 ∧
 True) ∧
 True) ∧
 True) ∧
 ((decide ((opAt x.1 g.2.2.1).1 < (1 : Int)) || decide ((7 : Int) < (opAt x.1 g.2.2.1).1)) = false →
 (decide ((opAt x.1 g.2.2.1).2.1 < (0 : Int)) = false →
 (decide ((4 : Int) ≤ (opAt x.1 g.2.2.1).2.1) = false →
 ((0 : Int) ≤ (opAt x.1 g.2.2.1).2.1 ∧
 (opAt x.1 g.2.2.1).2.1 < (↑(4 : Nat) : Int)) ∧
 (decide (g.1.getD (opAt x.1 g.2.2.1).2.1.toNat (-1 : Int) < (0 : Int)) = true →
 (g.2.1.length + ((((0 : Int), (0 : Int)) :: ([] : List (Int × Int))).set (0 : Nat) ((3 : Int), (0 : Int))).length ≤ (9223372036854775807 : Nat) ∧
 (g.2.1.length + ((((0 : Int), (0 : Int)) :: ([] : List (Int × Int))).set (0 : Nat) ((3 : Int), (0 : Int))).length + (g.2.1.length + ((((0 : Int), (0 : Int)) :: ([] : List (Int × Int))).set (0 : Nat) ((3 : Int), (0 : Int))).length) / (4 : Nat) + (192 : Nat)) * (16 : Nat) ≤ (281474976710656 : Nat)) ∧
 ((-9223372036854775808 : Int) ≤ g.2.2.1 + (1 : Int) ∧
 g.2.2.1 + (1 : Int) ≤ (9223372036854775807 : Int)) ∧
 (((0 : Int) ≤ g.2.2.1 + (1 : Int) ∧
 g.2.2.1 + (1 : Int) ≤ (↑x.1.length : Int) ∧
 ∃ s, frun (List.take (g.2.2.1 + (1 : Int)).toNat x.1) = (s, g.2.1 ++ (((0 : Int), (0 : Int)) :: ([] : List (Int × Int))).set (0 : Nat) ((3 : Int), (0 : Int))) ∧
 FR s g.1 g.2.2.2.1 g.2.2.2.2.1) ∧
 ((↑x.1.length : Int) - (g.2.2.1 + (1 : Int))).toNat < ((↑x.1.length : Int) - g.2.2.1).toNat) ∧
 ((True ∧
 True) ∧
 (True ∧
 True) ∧
 True ∧
 x.1 = x.1 ∧
 RR (↑x.1.length : Int) ∧
 g.2.2.1 + (1 : Int) = g.2.2.1 + (1 : Int) ∧
 True) ∧
 ((g.1 = g.1 ∧
 True) ∧
 g.2.1 ++ (((0 : Int), (0 : Int)) :: ([] : List (Int × Int))).set (0 : Nat) ((3 : Int), (0 : Int)) = g.2.1 ++ (((0 : Int), (0 : Int)) :: ([] : List (Int × Int))).set (0 : Nat) ((3 : Int), (0 : Int)) ∧
 RR g.2.2.2.1 ∧
 RR g.2.2.2.2.1 ∧
 (Z64 = Z64 ∧
 True) ∧
 True) ∧
 True) ∧
 (decide (g.1.getD (opAt x.1 g.2.2.1).2.1.toNat (-1 : Int) < (0 : Int)) = false →
 ((0 : Int) ≤ (opAt x.1 g.2.2.1).2.1 ∧
 (opAt x.1 g.2.2.1).2.1 < (↑(4 : Nat) : Int)) ∧
 (((opAt x.1 g.2.2.1).1 == (1 : Int)) = true →
 ((!decide ((opAt x.1 g.2.2.1).2.2.2.1 < (0 : Int))) = true →
 (!decide ((opAt x.1 g.2.2.1).2.2.2.1 < (0 : Int))) = true) ∧
 ((!decide ((opAt x.1 g.2.2.1).2.2.2.1 < (0 : Int))) = true →
 (!decide ((opAt x.1 g.2.2.1).2.2.2.1 < (0 : Int))) = true) ∧
 (decide ((opAt x.1 g.2.2.1).2.2.2.1 < (0 : Int)) = false →
 (!decide ((opAt x.1 g.2.2.1).2.2.2.1 < (0 : Int))) = true) ∧
 ((decide ((opAt x.1 g.2.2.1).2.2.2.1 < (0 : Int)) || decide ((1099511627776 : Int) < (opAt x.1 g.2.2.1).2.2.2.1)) = true →
 (g.2.1.length + ((((0 : Int), (0 : Int)) :: ([] : List (Int × Int))).set (0 : Nat) ((2 : Int), (0 : Int))).length ≤ (9223372036854775807 : Nat) ∧
 (g.2.1.length + ((((0 : Int), (0 : Int)) :: ([] : List (Int × Int))).set (0 : Nat) ((2 : Int), (0 : Int))).length + (g.2.1.length + ((((0 : Int), (0 : Int)) :: ([] : List (Int × Int))).set (0 : Nat) ((2 : Int), (0 : Int))).length) / (4 : Nat) + (192 : Nat)) * (16 : Nat) ≤ (281474976710656 : Nat)) ∧
 ((-9223372036854775808 : Int) ≤ g.2.2.1 + (1 : Int) ∧
 g.2.2.1 + (1 : Int) ≤ (9223372036854775807 : Int)) ∧
 (((0 : Int) ≤ g.2.2.1 + (1 : Int) ∧
 g.2.2.1 + (1 : Int) ≤ (↑x.1.length : Int) ∧
 ∃ s, frun (List.take (g.2.2.1 + (1 : Int)).toNat x.1) = (s, g.2.1 ++ (((0 : Int), (0 : Int)) :: ([] : List (Int × Int))).set (0 : Nat) ((2 : Int), (0 : Int))) ∧
 FR s g.1 g.2.2.2.1 g.2.2.2.2.1) ∧
 ((↑x.1.length : Int) - (g.2.2.1 + (1 : Int))).toNat < ((↑x.1.length : Int) - g.2.2.1).toNat) ∧
 ((True ∧
 True) ∧
 (True ∧
 True) ∧
 True ∧
 x.1 = x.1 ∧
 RR (↑x.1.length : Int) ∧
 g.2.2.1 + (1 : Int) = g.2.2.1 + (1 : Int) ∧
 True) ∧
 ((g.1 = g.1 ∧
 True) ∧
 g.2.1 ++ (((0 : Int), (0 : Int)) :: ([] : List (Int × Int))).set (0 : Nat) ((2 : Int), (0 : Int)) = g.2.1 ++ (((0 : Int), (0 : Int)) :: ([] : List (Int × Int))).set (0 : Nat) ((2 : Int), (0 : Int)) ∧
 RR g.2.2.2.1 ∧
 RR g.2.2.2.2.1 ∧
 (Z64 = Z64 ∧
 True) ∧
 True) ∧
 True) ∧
 ((decide ((opAt x.1 g.2.2.1).2.2.2.1 < (0 : Int)) || decide ((1099511627776 : Int) < (opAt x.1 g.2.2.1).2.2.2.1)) = false →
 Holds (mhas TB g.2.2.2.1 (g.1.getD (opAt x.1 g.2.2.1).2.1.toNat (-1 : Int)) = true ∧
 (tbOf g.2.2.2.1 (g.1.getD (opAt x.1 g.2.2.1).2.1.toNat (-1 : Int))).length = (16 : Nat)) ∧
 ((RR (g.1.getD (opAt x.1 g.2.2.1).2.1.toNat (-1 : Int)) ∧
 True) ∧
 RR g.2.2.2.1 ∧
 True) ∧
 ((!(lea (tbOf g.2.2.2.1 (g.1.getD (opAt x.1 g.2.2.1).2.1.toNat (-1 : Int)))).2.1) = true →
 (g.2.1.length + ((((0 : Int), (0 : Int)) :: ([] : List (Int × Int))).set (0 : Nat) ((4 : Int), (0 : Int))).length ≤ (9223372036854775807 : Nat) ∧
 (g.2.1.length + ((((0 : Int), (0 : Int)) :: ([] : List (Int × Int))).set (0 : Nat) ((4 : Int), (0 : Int))).length + (g.2.1.length + ((((0 : Int), (0 : Int)) :: ([] : List (Int × Int))).set (0 : Nat) ((4 : Int), (0 : Int))).length) / (4 : Nat) + (192 : Nat)) * (16 : Nat) ≤ (281474976710656 : Nat)) ∧
 ((-9223372036854775808 : Int) ≤ g.2.2.1 + (1 : Int) ∧
 g.2.2.1 + (1 : Int) ≤ (9223372036854775807 : Int)) ∧
 (((0 : Int) ≤ g.2.2.1 + (1 : Int) ∧
 g.2.2.1 + (1 : Int) ≤ (↑x.1.length : Int) ∧
 ∃ s, frun (List.take (g.2.2.1 + (1 : Int)).toNat x.1) = (s, g.2.1 ++ (((0 : Int), (0 : Int)) :: ([] : List (Int × Int))).set (0 : Nat) ((4 : Int), (0 : Int))) ∧
 FR s g.1 g.2.2.2.1 g.2.2.2.2.1) ∧
 ((↑x.1.length : Int) - (g.2.2.1 + (1 : Int))).toNat < ((↑x.1.length : Int) - g.2.2.1).toNat) ∧
 ((True ∧
 True) ∧
 (True ∧
 True) ∧
 True ∧
 x.1 = x.1 ∧
 RR (↑x.1.length : Int) ∧
 g.2.2.1 + (1 : Int) = g.2.2.1 + (1 : Int) ∧
 True) ∧
 ((g.1 = g.1 ∧
 True) ∧
 g.2.1 ++ (((0 : Int), (0 : Int)) :: ([] : List (Int × Int))).set (0 : Nat) ((4 : Int), (0 : Int)) = g.2.1 ++ (((0 : Int), (0 : Int)) :: ([] : List (Int × Int))).set (0 : Nat) ((4 : Int), (0 : Int)) ∧
 RR g.2.2.2.1 ∧
 RR g.2.2.2.2.1 ∧
 (Z64 = Z64 ∧
 True) ∧
 True) ∧
 True) ∧
 ((!(lea (tbOf g.2.2.2.1 (g.1.getD (opAt x.1 g.2.2.1).2.1.toNat (-1 : Int)))).2.1) = false →
 ∀ (g_1 : Int), (0 : Int) ≤ g_1 →
 mhas ((Ty.int IntKind.i64).pair ((Ty.int IntKind.i64).pair ((Ty.int IntKind.i64).pair (Ty.int IntKind.i64)))) g.2.2.2.2.1 g_1 = false →
 Holds ((mhas TB g.2.2.2.1 (g.1.getD (opAt x.1 g.2.2.1).2.1.toNat (-1 : Int)) = true ∧
 (0 : Int) ≤ (lea (tbOf g.2.2.2.1 (g.1.getD (opAt x.1 g.2.2.1).2.1.toNat (-1 : Int)))).1 ∧
 (lea (tbOf g.2.2.2.1 (g.1.getD (opAt x.1 g.2.2.1).2.1.toNat (-1 : Int)))).1 < (16 : Int)) ∧
 ((0 : Int) ≤ g_1 ∧
 mhas tyopen (mput ((Ty.int IntKind.i64).pair ((Ty.int IntKind.i64).pair ((Ty.int IntKind.i64).pair (Ty.int IntKind.i64)))) g.2.2.2.2.1 g_1 ((opAt x.1 g.2.2.1).2.2.1, (opAt x.1 g.2.2.1).2.2.2.1, (0 : Int), (0 : Int))) g_1 = true) ∧
 (0 : Int) ≤ (opOf (mput ((Ty.int IntKind.i64).pair ((Ty.int IntKind.i64).pair ((Ty.int IntKind.i64).pair (Ty.int IntKind.i64)))) g.2.2.2.2.1 g_1 ((opAt x.1 g.2.2.1).2.2.1, (opAt x.1 g.2.2.1).2.2.2.1, (0 : Int), (0 : Int))) g_1).2.2.2 ∧
 (opOf (mput ((Ty.int IntKind.i64).pair ((Ty.int IntKind.i64).pair ((Ty.int IntKind.i64).pair (Ty.int IntKind.i64)))) g.2.2.2.2.1 g_1 ((opAt x.1 g.2.2.1).2.2.1, (opAt x.1 g.2.2.1).2.2.2.1, (0 : Int), (0 : Int))) g_1).2.2.2 ≤ (1000 : Int)) ∧
 ((RR (g.1.getD (opAt x.1 g.2.2.1).2.1.toNat (-1 : Int)) ∧
 RR ((lea (tbOf g.2.2.2.1 (g.1.getD (opAt x.1 g.2.2.1).2.1.toNat (-1 : Int)))).1) ∧
 g_1 = g_1 ∧
 True) ∧
 RR g.2.2.2.1 ∧
 RR (mput ((Ty.int IntKind.i64).pair ((Ty.int IntKind.i64).pair ((Ty.int IntKind.i64).pair (Ty.int IntKind.i64)))) g.2.2.2.2.1 g_1 ((opAt x.1 g.2.2.1).2.2.1, (opAt x.1 g.2.2.1).2.2.2.1, (0 : Int), (0 : Int))) ∧
 True) ∧
 (g.2.1.length + ((((0 : Int), (0 : Int)) :: ([] : List (Int × Int))).set (0 : Nat) ((0 : Int), (lea (tbOf g.2.2.2.1 (g.1.getD (opAt x.1 g.2.2.1).2.1.toNat (-1 : Int)))).1)).length ≤ (9223372036854775807 : Nat) ∧
 (g.2.1.length + ((((0 : Int), (0 : Int)) :: ([] : List (Int × Int))).set (0 : Nat) ((0 : Int), (lea (tbOf g.2.2.2.1 (g.1.getD (opAt x.1 g.2.2.1).2.1.toNat (-1 : Int)))).1)).length + (g.2.1.length + ((((0 : Int), (0 : Int)) :: ([] : List (Int × Int))).set (0 : Nat) ((0 : Int), (lea (tbOf g.2.2.2.1 (g.1.getD (opAt x.1 g.2.2.1).2.1.toNat (-1 : Int)))).1)).length) / (4 : Nat) + (192 : Nat)) * (16 : Nat) ≤ (281474976710656 : Nat)) ∧
 ((-9223372036854775808 : Int) ≤ g.2.2.1 + (1 : Int) ∧
 g.2.2.1 + (1 : Int) ≤ (9223372036854775807 : Int)) ∧
 (((0 : Int) ≤ g.2.2.1 + (1 : Int) ∧
 g.2.2.1 + (1 : Int) ≤ (↑x.1.length : Int) ∧
 ∃ s, frun (List.take (g.2.2.1 + (1 : Int)).toNat x.1) = (s, g.2.1 ++ (((0 : Int), (0 : Int)) :: ([] : List (Int × Int))).set (0 : Nat) ((0 : Int), (lea (tbOf g.2.2.2.1 (g.1.getD (opAt x.1 g.2.2.1).2.1.toNat (-1 : Int)))).1)) ∧
 FR s g.1 (tset g.2.2.2.1 (g.1.getD (opAt x.1 g.2.2.1).2.1.toNat (-1 : Int)) (lea (tbOf g.2.2.2.1 (g.1.getD (opAt x.1 g.2.2.1).2.1.toNat (-1 : Int)))).1 g_1) (inc (mput ((Ty.int IntKind.i64).pair ((Ty.int IntKind.i64).pair ((Ty.int IntKind.i64).pair (Ty.int IntKind.i64)))) g.2.2.2.2.1 g_1 ((opAt x.1 g.2.2.1).2.2.1, (opAt x.1 g.2.2.1).2.2.2.1, (0 : Int), (0 : Int))) g_1)) ∧
 ((↑x.1.length : Int) - (g.2.2.1 + (1 : Int))).toNat < ((↑x.1.length : Int) - g.2.2.1).toNat) ∧
 ((True ∧
 True) ∧
 (True ∧
 True) ∧
 True ∧
 x.1 = x.1 ∧
 RR (↑x.1.length : Int) ∧
 g.2.2.1 + (1 : Int) = g.2.2.1 + (1 : Int) ∧
 True) ∧
 ((g.1 = g.1 ∧
 True) ∧
 g.2.1 ++ (((0 : Int), (0 : Int)) :: ([] : List (Int × Int))).set (0 : Nat) ((0 : Int), (lea (tbOf g.2.2.2.1 (g.1.getD (opAt x.1 g.2.2.1).2.1.toNat (-1 : Int)))).1) = g.2.1 ++ (((0 : Int), (0 : Int)) :: ([] : List (Int × Int))).set (0 : Nat) ((0 : Int), (lea (tbOf g.2.2.2.1 (g.1.getD (opAt x.1 g.2.2.1).2.1.toNat (-1 : Int)))).1) ∧
 RR (tset g.2.2.2.1 (g.1.getD (opAt x.1 g.2.2.1).2.1.toNat (-1 : Int)) (lea (tbOf g.2.2.2.1 (g.1.getD (opAt x.1 g.2.2.1).2.1.toNat (-1 : Int)))).1 g_1) ∧
 inc (mput ((Ty.int IntKind.i64).pair ((Ty.int IntKind.i64).pair ((Ty.int IntKind.i64).pair (Ty.int IntKind.i64)))) g.2.2.2.2.1 g_1 ((opAt x.1 g.2.2.1).2.2.1, (opAt x.1 g.2.2.1).2.2.2.1, (0 : Int), (0 : Int))) g_1 = inc (mput ((Ty.int IntKind.i64).pair ((Ty.int IntKind.i64).pair ((Ty.int IntKind.i64).pair (Ty.int IntKind.i64)))) g.2.2.2.2.1 g_1 ((opAt x.1 g.2.2.1).2.2.1, (opAt x.1 g.2.2.1).2.2.2.1, (0 : Int), (0 : Int))) g_1 ∧
 (Z64 = Z64 ∧
 True) ∧
 True) ∧
 True))) ∧
 (((opAt x.1 g.2.2.1).1 == (1 : Int)) = false →
 (((opAt x.1 g.2.2.1).1 == (7 : Int)) = true →
 (decide ((opAt x.1 g.2.2.1).2.2.2.2.2.1 < (0 : Int)) = false →
 (decide ((4 : Int) ≤ (opAt x.1 g.2.2.1).2.2.2.2.2.1) = false →
 ((0 : Int) ≤ (opAt x.1 g.2.2.1).2.2.2.2.2.1 ∧
 (opAt x.1 g.2.2.1).2.2.2.2.2.1 < (↑(4 : Nat) : Int)) ∧
 ((!decide (g.1.getD (opAt x.1 g.2.2.1).2.2.2.2.2.1.toNat (-1 : Int) < (0 : Int))) = true →
 (g.2.1.length + ((((0 : Int), (0 : Int)) :: ([] : List (Int × Int))).set (0 : Nat) ((6 : Int), (0 : Int))).length ≤ (9223372036854775807 : Nat) ∧
 (g.2.1.length + ((((0 : Int), (0 : Int)) :: ([] : List (Int × Int))).set (0 : Nat) ((6 : Int), (0 : Int))).length + (g.2.1.length + ((((0 : Int), (0 : Int)) :: ([] : List (Int × Int))).set (0 : Nat) ((6 : Int), (0 : Int))).length) / (4 : Nat) + (192 : Nat)) * (16 : Nat) ≤ (281474976710656 : Nat)) ∧
 ((-9223372036854775808 : Int) ≤ g.2.2.1 + (1 : Int) ∧
 g.2.2.1 + (1 : Int) ≤ (9223372036854775807 : Int)) ∧
 (((0 : Int) ≤ g.2.2.1 + (1 : Int) ∧
 g.2.2.1 + (1 : Int) ≤ (↑x.1.length : Int) ∧
 ∃ s, frun (List.take (g.2.2.1 + (1 : Int)).toNat x.1) = (s, g.2.1 ++ (((0 : Int), (0 : Int)) :: ([] : List (Int × Int))).set (0 : Nat) ((6 : Int), (0 : Int))) ∧
 FR s g.1 g.2.2.2.1 g.2.2.2.2.1) ∧
 ((↑x.1.length : Int) - (g.2.2.1 + (1 : Int))).toNat < ((↑x.1.length : Int) - g.2.2.1).toNat) ∧
 ((True ∧
 True) ∧
 (True ∧
 True) ∧
 True ∧
 x.1 = x.1 ∧
 RR (↑x.1.length : Int) ∧
 g.2.2.1 + (1 : Int) = g.2.2.1 + (1 : Int) ∧
 True) ∧
 ((g.1 = g.1 ∧
 True) ∧
 g.2.1 ++ (((0 : Int), (0 : Int)) :: ([] : List (Int × Int))).set (0 : Nat) ((6 : Int), (0 : Int)) = g.2.1 ++ (((0 : Int), (0 : Int)) :: ([] : List (Int × Int))).set (0 : Nat) ((6 : Int), (0 : Int)) ∧
 RR g.2.2.2.1 ∧
 RR g.2.2.2.2.1 ∧
 (Z64 = Z64 ∧
 True) ∧
 True) ∧
 True) ∧
 ((!decide (g.1.getD (opAt x.1 g.2.2.1).2.2.2.2.2.1.toNat (-1 : Int) < (0 : Int))) = false →
 ∀ (g_1 : Int), (0 : Int) ≤ g_1 →
 mhas (Ty.arr (16 : Nat) (Ty.ref (1 : Nat))) g.2.2.2.1 g_1 = false →
 ((((0 : Int) ≤ (0 : Int) ∧
 (0 : Int) ≤ (16 : Int) ∧
 mput (Ty.arr (16 : Nat) (Ty.ref (1 : Nat))) g.2.2.2.1 g_1 N16 = mput TB (mput TB g.2.2.2.1 g_1 N16) g_1 (List.take (Int.toNat (0 : Int)) (tbOf (mput TB g.2.2.2.1 g_1 N16) (g.1.getD (opAt x.1 g.2.2.1).2.1.toNat (-1 : Int))) ++ List.replicate ((16 : Int) - (0 : Int)).toNat (-1 : Int)) ∧
 g.2.2.2.2.1 = incs g.2.2.2.2.1 (List.take (Int.toNat (0 : Int)) (tbOf (mput TB g.2.2.2.1 g_1 N16) (g.1.getD (opAt x.1 g.2.2.1).2.1.toNat (-1 : Int))))) ∧
 True) ∧
 ((True ∧
 True) ∧
 (True ∧
 True) ∧
 (True ∧
 True) ∧
 RR (g.1.getD (opAt x.1 g.2.2.1).2.1.toNat (-1 : Int)) ∧
 g_1 = g_1 ∧
 RR (g.1.getD (opAt x.1 g.2.2.1).2.1.toNat (-1 : Int)) ∧
 RR (0 : Int) ∧
 True) ∧
 (RR (mput (Ty.arr (16 : Nat) (Ty.ref (1 : Nat))) g.2.2.2.1 g_1 N16) ∧
 RR g.2.2.2.2.1 ∧
 (Z64 = Z64 ∧
 True) ∧
 (g.1 = g.1 ∧
 True) ∧
 g.2.1 = g.2.1 ∧
 (RR ((opAt x.1 g.2.2.1).1) ∧
 RR ((opAt x.1 g.2.2.1).2.1) ∧
 RR ((opAt x.1 g.2.2.1).2.2.1) ∧
 RR ((opAt x.1 g.2.2.1).2.2.2.1) ∧
 RR ((opAt x.1 g.2.2.1).2.2.2.2.1) ∧
 RR ((opAt x.1 g.2.2.1).2.2.2.2.2.1) ∧
 RR ((opAt x.1 g.2.2.1).2.2.2.2.2.2) ∧
 True) ∧
 (RR ((opAt x.1 g.2.2.1).1) ∧
 RR ((opAt x.1 g.2.2.1).2.1) ∧
 RR ((opAt x.1 g.2.2.1).2.2.1) ∧
 RR ((opAt x.1 g.2.2.1).2.2.2.1) ∧
 RR ((opAt x.1 g.2.2.1).2.2.2.2.1) ∧
 RR ((opAt x.1 g.2.2.1).2.2.2.2.2.1) ∧
 RR ((opAt x.1 g.2.2.1).2.2.2.2.2.2) ∧
 True) ∧
 (RR (0 : Int) ∧
 RR (0 : Int) ∧
 True) ∧
 True) ∧
 True ∧
 True ∧
 True ∧
 (True ∧
 True) ∧
 (True ∧
 True) ∧
 True ∧
 True ∧
 (True ∧
 True) ∧
 R8 (True ∧
 True ∧
 True ∧
 True ∧
 x.1 = x.1 ∧
 RR (↑x.1.length : Int) ∧
 g.2.2.1 = g.2.2.1 ∧
 true = true ∧
 True ∧
 (RR ((opAt x.1 g.2.2.1).1) ∧
 RR ((opAt x.1 g.2.2.1).2.1) ∧
 RR ((opAt x.1 g.2.2.1).2.2.1) ∧
 RR ((opAt x.1 g.2.2.1).2.2.2.1) ∧
 RR ((opAt x.1 g.2.2.1).2.2.2.2.1) ∧
 RR ((opAt x.1 g.2.2.1).2.2.2.2.2.1) ∧
 RR ((opAt x.1 g.2.2.1).2.2.2.2.2.2) ∧
 True) ∧
 True ∧
 (True ∧
 True) ∧
 (RR ((opAt x.1 g.2.2.1).1) ∧
 RR ((opAt x.1 g.2.2.1).2.1) ∧
 RR ((opAt x.1 g.2.2.1).2.2.1) ∧
 RR ((opAt x.1 g.2.2.1).2.2.2.1) ∧
 RR ((opAt x.1 g.2.2.1).2.2.2.2.1) ∧
 RR ((opAt x.1 g.2.2.1).2.2.2.2.2.1) ∧
 RR ((opAt x.1 g.2.2.1).2.2.2.2.2.2) ∧
 True) ∧
 R32 (R8 (True ∧
 True ∧
 True ∧
 True ∧
 True ∧
 True ∧
 True)))) ∧
 ∀ (g_2 : Int × List (Int × List Int) × List (Int × Int × Int × Int × Int) × Unit), (0 : Int) ≤ g_2.1 ∧
 g_2.1 ≤ (16 : Int) ∧
 g_2.2.1 = mput TB (mput TB g.2.2.2.1 g_1 N16) g_1 (List.take g_2.1.toNat (tbOf (mput TB g.2.2.2.1 g_1 N16) (g.1.getD (opAt x.1 g.2.2.1).2.1.toNat (-1 : Int))) ++ List.replicate ((16 : Int) - g_2.1).toNat (-1 : Int)) ∧
 g_2.2.2.1 = incs g.2.2.2.2.1 (List.take g_2.1.toNat (tbOf (mput TB g.2.2.2.1 g_1 N16) (g.1.getD (opAt x.1 g.2.2.1).2.1.toNat (-1 : Int)))) →
 ((-9223372036854775808 : Int) ≤ g_2.1 ∧
 g_2.1 ≤ (9223372036854775807 : Int)) ∧
 ((List.map (fun x ↦ x.1) g_2.2.1).Nodup ∧
 ∀ (e : Int × List Int), e ∈ g_2.2.1 →
 (0 : Int) ≤ e.1 ∧
 e.2.length = (16 : Nat) ∧
 ∀ (x : Int), x ∈ e.2 →
 (0 : Int) ≤ x + (1 : Int) ∧
 True) ∧
 ((List.map (fun x ↦ x.1) g_2.2.2.1).Nodup ∧
 ∀ (e : Int × Int × Int × Int × Int), e ∈ g_2.2.2.1 →
 (0 : Int) ≤ e.1 ∧
 ((-9223372036854775808 : Int) ≤ e.2.1 ∧
 e.2.1 ≤ (9223372036854775807 : Int)) ∧
 ((-9223372036854775808 : Int) ≤ e.2.2.1 ∧
 e.2.2.1 ≤ (9223372036854775807 : Int)) ∧
 ((-9223372036854775808 : Int) ≤ e.2.2.2.1 ∧
 e.2.2.2.1 ≤ (9223372036854775807 : Int)) ∧
 (-9223372036854775808 : Int) ≤ e.2.2.2.2 ∧
 e.2.2.2.2 ≤ (9223372036854775807 : Int)) ∧
 True →
 (decide (g_2.1 < (16 : Int)) = true →
 (0 : Int) ≤ g.1.getD (opAt x.1 g.2.2.1).2.1.toNat (-1 : Int) ∧
 ((0 : Int) ≤ g_2.1 ∧
 g_2.1 < (↑(16 : Nat) : Int)) ∧
 mhas TB g_2.2.1 (g.1.getD (opAt x.1 g.2.2.1).2.1.toNat (-1 : Int)) = true ∧
 ((!decide (List.getD (mval TB g_2.2.1 (g.1.getD (opAt x.1 g.2.2.1).2.1.toNat (-1 : Int))) g_2.1.toNat (-1 : Int) < (0 : Int))) = true →
 Holds ((mhas TB g_2.2.1 g_1 = true ∧
 (0 : Int) ≤ g_2.1 ∧
 g_2.1 < (16 : Int)) ∧
 ((0 : Int) ≤ List.getD (mval TB g_2.2.1 (g.1.getD (opAt x.1 g.2.2.1).2.1.toNat (-1 : Int))) g_2.1.toNat (-1 : Int) ∧
 mhas tyopen g_2.2.2.1 (List.getD (mval TB g_2.2.1 (g.1.getD (opAt x.1 g.2.2.1).2.1.toNat (-1 : Int))) g_2.1.toNat (-1 : Int)) = true) ∧
 (0 : Int) ≤ (opOf g_2.2.2.1 (List.getD (mval TB g_2.2.1 (g.1.getD (opAt x.1 g.2.2.1).2.1.toNat (-1 : Int))) g_2.1.toNat (-1 : Int))).2.2.2 ∧
 (opOf g_2.2.2.1 (List.getD (mval TB g_2.2.1 (g.1.getD (opAt x.1 g.2.2.1).2.1.toNat (-1 : Int))) g_2.1.toNat (-1 : Int))).2.2.2 ≤ (1000 : Int)) ∧
 ((g_1 = g_1 ∧
 g_2.1 = g_2.1 ∧
 RR (List.getD (mval TB g_2.2.1 (g.1.getD (opAt x.1 g.2.2.1).2.1.toNat (-1 : Int))) g_2.1.toNat (-1 : Int)) ∧
 True) ∧
 g_2.2.1 = g_2.2.1 ∧
 RR g_2.2.2.1 ∧
 True) ∧
 ((-9223372036854775808 : Int) ≤ g_2.1 + (1 : Int) ∧
 g_2.1 + (1 : Int) ≤ (9223372036854775807 : Int)) ∧
 (((0 : Int) ≤ g_2.1 + (1 : Int) ∧
 g_2.1 + (1 : Int) ≤ (16 : Int) ∧
 tset g_2.2.1 g_1 g_2.1 (List.getD (mval TB g_2.2.1 (g.1.getD (opAt x.1 g.2.2.1).2.1.toNat (-1 : Int))) g_2.1.toNat (-1 : Int)) = mput TB (mput TB g.2.2.2.1 g_1 N16) g_1 (List.take (g_2.1 + (1 : Int)).toNat (tbOf (mput TB g.2.2.2.1 g_1 N16) (g.1.getD (opAt x.1 g.2.2.1).2.1.toNat (-1 : Int))) ++ List.replicate ((16 : Int) - (g_2.1 + (1 : Int))).toNat (-1 : Int)) ∧
 inc g_2.2.2.1 (List.getD (mval TB g_2.2.1 (g.1.getD (opAt x.1 g.2.2.1).2.1.toNat (-1 : Int))) g_2.1.toNat (-1 : Int)) = incs g.2.2.2.2.1 (List.take (g_2.1 + (1 : Int)).toNat (tbOf (mput TB g.2.2.2.1 g_1 N16) (g.1.getD (opAt x.1 g.2.2.1).2.1.toNat (-1 : Int))))) ∧
 ((16 : Int) - (g_2.1 + (1 : Int))).toNat < ((16 : Int) - g_2.1).toNat) ∧
 ((True ∧
 True) ∧
 (True ∧
 True) ∧
 (True ∧
 True) ∧
 RR (g.1.getD (opAt x.1 g.2.2.1).2.1.toNat (-1 : Int)) ∧
 g_1 = g_1 ∧
 RR (g.1.getD (opAt x.1 g.2.2.1).2.1.toNat (-1 : Int)) ∧
 g_2.1 + (1 : Int) = g_2.1 + (1 : Int) ∧
 True) ∧
 (RR (tset g_2.2.1 g_1 g_2.1 (List.getD (mval TB g_2.2.1 (g.1.getD (opAt x.1 g.2.2.1).2.1.toNat (-1 : Int))) g_2.1.toNat (-1 : Int))) ∧
 RR (inc g_2.2.2.1 (List.getD (mval TB g_2.2.1 (g.1.getD (opAt x.1 g.2.2.1).2.1.toNat (-1 : Int))) g_2.1.toNat (-1 : Int))) ∧
 (Z64 = Z64 ∧
 True) ∧
 (g.1 = g.1 ∧
 True) ∧
 g.2.1 = g.2.1 ∧
 (RR ((opAt x.1 g.2.2.1).1) ∧
 RR ((opAt x.1 g.2.2.1).2.1) ∧
 RR ((opAt x.1 g.2.2.1).2.2.1) ∧
 RR ((opAt x.1 g.2.2.1).2.2.2.1) ∧
 RR ((opAt x.1 g.2.2.1).2.2.2.2.1) ∧
 RR ((opAt x.1 g.2.2.1).2.2.2.2.2.1) ∧
 RR ((opAt x.1 g.2.2.1).2.2.2.2.2.2) ∧
 True) ∧
 (RR ((opAt x.1 g.2.2.1).1) ∧
 RR ((opAt x.1 g.2.2.1).2.1) ∧
 RR ((opAt x.1 g.2.2.1).2.2.1) ∧
 RR ((opAt x.1 g.2.2.1).2.2.2.1) ∧
 RR ((opAt x.1 g.2.2.1).2.2.2.2.1) ∧
 RR ((opAt x.1 g.2.2.1).2.2.2.2.2.1) ∧
 RR ((opAt x.1 g.2.2.1).2.2.2.2.2.2) ∧
 True) ∧
 (RR (0 : Int) ∧
 RR (0 : Int) ∧
 True) ∧
 True) ∧
 True ∧
 True ∧
 True ∧
 (True ∧
 True) ∧
 (True ∧
 True) ∧
 True ∧
 True ∧
 (True ∧
 True) ∧
 R8 (True ∧
 True ∧
 True ∧
 True ∧
 x.1 = x.1 ∧
 RR (↑x.1.length : Int) ∧
 g.2.2.1 = g.2.2.1 ∧
 true = true ∧
 True ∧
 (RR ((opAt x.1 g.2.2.1).1) ∧
 RR ((opAt x.1 g.2.2.1).2.1) ∧
 RR ((opAt x.1 g.2.2.1).2.2.1) ∧
 RR ((opAt x.1 g.2.2.1).2.2.2.1) ∧
 RR ((opAt x.1 g.2.2.1).2.2.2.2.1) ∧
 RR ((opAt x.1 g.2.2.1).2.2.2.2.2.1) ∧
 RR ((opAt x.1 g.2.2.1).2.2.2.2.2.2) ∧
 True) ∧
 True ∧
 (True ∧
 True) ∧
 (RR ((opAt x.1 g.2.2.1).1) ∧
 RR ((opAt x.1 g.2.2.1).2.1) ∧
 RR ((opAt x.1 g.2.2.1).2.2.1) ∧
 RR ((opAt x.1 g.2.2.1).2.2.2.1) ∧
 RR ((opAt x.1 g.2.2.1).2.2.2.2.1) ∧
 RR ((opAt x.1 g.2.2.1).2.2.2.2.2.1) ∧
 RR ((opAt x.1 g.2.2.1).2.2.2.2.2.2) ∧
 True) ∧
 R32 (R8 (True ∧
 True ∧
 True ∧
 True ∧
 True ∧
 True ∧
 True)))) ∧
 ((!decide (List.getD (mval TB g_2.2.1 (g.1.getD (opAt x.1 g.2.2.1).2.1.toNat (-1 : Int))) g_2.1.toNat (-1 : Int) < (0 : Int))) = false →
 ((-9223372036854775808 : Int) ≤ g_2.1 + (1 : Int) ∧
 g_2.1 + (1 : Int) ≤ (9223372036854775807 : Int)) ∧
 (((0 : Int) ≤ g_2.1 + (1 : Int) ∧
 g_2.1 + (1 : Int) ≤ (16 : Int) ∧
 g_2.2.1 = mput TB (mput TB g.2.2.2.1 g_1 N16) g_1 (List.take (g_2.1 + (1 : Int)).toNat (tbOf (mput TB g.2.2.2.1 g_1 N16) (g.1.getD (opAt x.1 g.2.2.1).2.1.toNat (-1 : Int))) ++ List.replicate ((16 : Int) - (g_2.1 + (1 : Int))).toNat (-1 : Int)) ∧
 g_2.2.2.1 = incs g.2.2.2.2.1 (List.take (g_2.1 + (1 : Int)).toNat (tbOf (mput TB g.2.2.2.1 g_1 N16) (g.1.getD (opAt x.1 g.2.2.1).2.1.toNat (-1 : Int))))) ∧
 ((16 : Int) - (g_2.1 + (1 : Int))).toNat < ((16 : Int) - g_2.1).toNat) ∧
 ((True ∧
 True) ∧
 (True ∧
 True) ∧
 (True ∧
 True) ∧
 RR (g.1.getD (opAt x.1 g.2.2.1).2.1.toNat (-1 : Int)) ∧
 g_1 = g_1 ∧
 RR (g.1.getD (opAt x.1 g.2.2.1).2.1.toNat (-1 : Int)) ∧
 g_2.1 + (1 : Int) = g_2.1 + (1 : Int) ∧
 True) ∧
 (g_2.2.1 = g_2.2.1 ∧
 RR g_2.2.2.1 ∧
 (Z64 = Z64 ∧
 True) ∧
 (g.1 = g.1 ∧
 True) ∧
 g.2.1 = g.2.1 ∧
 (RR ((opAt x.1 g.2.2.1).1) ∧
 RR ((opAt x.1 g.2.2.1).2.1) ∧
 RR ((opAt x.1 g.2.2.1).2.2.1) ∧
 RR ((opAt x.1 g.2.2.1).2.2.2.1) ∧
 RR ((opAt x.1 g.2.2.1).2.2.2.2.1) ∧
 RR ((opAt x.1 g.2.2.1).2.2.2.2.2.1) ∧
 RR ((opAt x.1 g.2.2.1).2.2.2.2.2.2) ∧
 True) ∧
 (RR ((opAt x.1 g.2.2.1).1) ∧
 RR ((opAt x.1 g.2.2.1).2.1) ∧
 RR ((opAt x.1 g.2.2.1).2.2.1) ∧
 RR ((opAt x.1 g.2.2.1).2.2.2.1) ∧
 RR ((opAt x.1 g.2.2.1).2.2.2.2.1) ∧
 RR ((opAt x.1 g.2.2.1).2.2.2.2.2.1) ∧
 RR ((opAt x.1 g.2.2.1).2.2.2.2.2.2) ∧
 True) ∧
 (RR (0 : Int) ∧
 RR (0 : Int) ∧
 True) ∧
 True) ∧
 True ∧
 True ∧
 True ∧
 (True ∧
 True) ∧
 (True ∧
 True) ∧
 True ∧
 True ∧
 (True ∧
 True) ∧
 R8 (True ∧
 True ∧
 True ∧
 True ∧
 x.1 = x.1 ∧
 RR (↑x.1.length : Int) ∧
 g.2.2.1 = g.2.2.1 ∧
 true = true ∧
 True ∧
 (RR ((opAt x.1 g.2.2.1).1) ∧
 RR ((opAt x.1 g.2.2.1).2.1) ∧
 RR ((opAt x.1 g.2.2.1).2.2.1) ∧
 RR ((opAt x.1 g.2.2.1).2.2.2.1) ∧
 RR ((opAt x.1 g.2.2.1).2.2.2.2.1) ∧
 RR ((opAt x.1 g.2.2.1).2.2.2.2.2.1) ∧
 RR ((opAt x.1 g.2.2.1).2.2.2.2.2.2) ∧
 True) ∧
 True ∧
 (True ∧
 True) ∧
 (RR ((opAt x.1 g.2.2.1).1) ∧
 RR ((opAt x.1 g.2.2.1).2.1) ∧
 RR ((opAt x.1 g.2.2.1).2.2.1) ∧
 RR ((opAt x.1 g.2.2.1).2.2.2.1) ∧
 RR ((opAt x.1 g.2.2.1).2.2.2.2.1) ∧
 RR ((opAt x.1 g.2.2.1).2.2.2.2.2.1) ∧
 RR ((opAt x.1 g.2.2.1).2.2.2.2.2.2) ∧
 True) ∧
 R32 (R8 (True ∧
 True ∧
 True ∧
 True ∧
 True ∧
 True ∧
 True))))) ∧
 (decide (g_2.1 < (16 : Int)) = false →
 ((0 : Int) ≤ (opAt x.1 g.2.2.1).2.2.2.2.2.1 ∧
 (opAt x.1 g.2.2.1).2.2.2.2.2.1 < (↑(4 : Nat) : Int)) ∧
 (g.2.1.length + ((((0 : Int), (0 : Int)) :: ([] : List (Int × Int))).set (0 : Nat) ((0 : Int), (opAt x.1 g.2.2.1).2.2.2.2.2.1)).length ≤ (9223372036854775807 : Nat) ∧
 (g.2.1.length + ((((0 : Int), (0 : Int)) :: ([] : List (Int × Int))).set (0 : Nat) ((0 : Int), (opAt x.1 g.2.2.1).2.2.2.2.2.1)).length + (g.2.1.length + ((((0 : Int), (0 : Int)) :: ([] : List (Int × Int))).set (0 : Nat) ((0 : Int), (opAt x.1 g.2.2.1).2.2.2.2.2.1)).length) / (4 : Nat) + (192 : Nat)) * (16 : Nat) ≤ (281474976710656 : Nat)) ∧
 ((-9223372036854775808 : Int) ≤ g.2.2.1 + (1 : Int) ∧
 g.2.2.1 + (1 : Int) ≤ (9223372036854775807 : Int)) ∧
 (((0 : Int) ≤ g.2.2.1 + (1 : Int) ∧
 g.2.2.1 + (1 : Int) ≤ (↑x.1.length : Int) ∧
 ∃ s, frun (List.take (g.2.2.1 + (1 : Int)).toNat x.1) = (s, g.2.1 ++ (((0 : Int), (0 : Int)) :: ([] : List (Int × Int))).set (0 : Nat) ((0 : Int), (opAt x.1 g.2.2.1).2.2.2.2.2.1)) ∧
 FR s (g.1.set (opAt x.1 g.2.2.1).2.2.2.2.2.1.toNat g_1) g_2.2.1 g_2.2.2.1) ∧
 ((↑x.1.length : Int) - (g.2.2.1 + (1 : Int))).toNat < ((↑x.1.length : Int) - g.2.2.1).toNat) ∧
 ((True ∧
 True) ∧
 (True ∧
 True) ∧
 True ∧
 x.1 = x.1 ∧
 RR (↑x.1.length : Int) ∧
 g.2.2.1 + (1 : Int) = g.2.2.1 + (1 : Int) ∧
 True) ∧
 ((RR (g.1.set (opAt x.1 g.2.2.1).2.2.2.2.2.1.toNat g_1) ∧
 True) ∧
 g.2.1 ++ (((0 : Int), (0 : Int)) :: ([] : List (Int × Int))).set (0 : Nat) ((0 : Int), (opAt x.1 g.2.2.1).2.2.2.2.2.1) = g.2.1 ++ (((0 : Int), (0 : Int)) :: ([] : List (Int × Int))).set (0 : Nat) ((0 : Int), (opAt x.1 g.2.2.1).2.2.2.2.2.1) ∧
 g_2.2.1 = g_2.2.1 ∧
 RR g_2.2.2.1 ∧
 (Z64 = Z64 ∧
 True) ∧
 True) ∧
 True))) ∧
 (decide ((4 : Int) ≤ (opAt x.1 g.2.2.1).2.2.2.2.2.1) = !false →
 (g.2.1.length + ((((0 : Int), (0 : Int)) :: ([] : List (Int × Int))).set (0 : Nat) ((6 : Int), (0 : Int))).length ≤ (9223372036854775807 : Nat) ∧
 (g.2.1.length + ((((0 : Int), (0 : Int)) :: ([] : List (Int × Int))).set (0 : Nat) ((6 : Int), (0 : Int))).length + (g.2.1.length + ((((0 : Int), (0 : Int)) :: ([] : List (Int × Int))).set (0 : Nat) ((6 : Int), (0 : Int))).length) / (4 : Nat) + (192 : Nat)) * (16 : Nat) ≤ (281474976710656 : Nat)) ∧
 ((-9223372036854775808 : Int) ≤ g.2.2.1 + (1 : Int) ∧
 g.2.2.1 + (1 : Int) ≤ (9223372036854775807 : Int)) ∧
 (((0 : Int) ≤ g.2.2.1 + (1 : Int) ∧
 g.2.2.1 + (1 : Int) ≤ (↑x.1.length : Int) ∧
 ∃ s, frun (List.take (g.2.2.1 + (1 : Int)).toNat x.1) = (s, g.2.1 ++ (((0 : Int), (0 : Int)) :: ([] : List (Int × Int))).set (0 : Nat) ((6 : Int), (0 : Int))) ∧
 FR s g.1 g.2.2.2.1 g.2.2.2.2.1) ∧
 ((↑x.1.length : Int) - (g.2.2.1 + (1 : Int))).toNat < ((↑x.1.length : Int) - g.2.2.1).toNat) ∧
 ((True ∧
 True) ∧
 (True ∧
 True) ∧
 True ∧
 x.1 = x.1 ∧
 RR (↑x.1.length : Int) ∧
 g.2.2.1 + (1 : Int) = g.2.2.1 + (1 : Int) ∧
 True) ∧
 ((g.1 = g.1 ∧
 True) ∧
 g.2.1 ++ (((0 : Int), (0 : Int)) :: ([] : List (Int × Int))).set (0 : Nat) ((6 : Int), (0 : Int)) = g.2.1 ++ (((0 : Int), (0 : Int)) :: ([] : List (Int × Int))).set (0 : Nat) ((6 : Int), (0 : Int)) ∧
 RR g.2.2.2.1 ∧
 RR g.2.2.2.2.1 ∧
 (Z64 = Z64 ∧
 True) ∧
 True) ∧
 True)) ∧
 (decide ((opAt x.1 g.2.2.1).2.2.2.2.2.1 < (0 : Int)) = !false →
 (g.2.1.length + ((((0 : Int), (0 : Int)) :: ([] : List (Int × Int))).set (0 : Nat) ((6 : Int), (0 : Int))).length ≤ (9223372036854775807 : Nat) ∧
 (g.2.1.length + ((((0 : Int), (0 : Int)) :: ([] : List (Int × Int))).set (0 : Nat) ((6 : Int), (0 : Int))).length + (g.2.1.length + ((((0 : Int), (0 : Int)) :: ([] : List (Int × Int))).set (0 : Nat) ((6 : Int), (0 : Int))).length) / (4 : Nat) + (192 : Nat)) * (16 : Nat) ≤ (281474976710656 : Nat)) ∧
 ((-9223372036854775808 : Int) ≤ g.2.2.1 + (1 : Int) ∧
 g.2.2.1 + (1 : Int) ≤ (9223372036854775807 : Int)) ∧
 (((0 : Int) ≤ g.2.2.1 + (1 : Int) ∧
 g.2.2.1 + (1 : Int) ≤ (↑x.1.length : Int) ∧
 ∃ s, frun (List.take (g.2.2.1 + (1 : Int)).toNat x.1) = (s, g.2.1 ++ (((0 : Int), (0 : Int)) :: ([] : List (Int × Int))).set (0 : Nat) ((6 : Int), (0 : Int))) ∧
 FR s g.1 g.2.2.2.1 g.2.2.2.2.1) ∧
 ((↑x.1.length : Int) - (g.2.2.1 + (1 : Int))).toNat < ((↑x.1.length : Int) - g.2.2.1).toNat) ∧
 ((True ∧
 True) ∧
 (True ∧
 True) ∧
 True ∧
 x.1 = x.1 ∧
 RR (↑x.1.length : Int) ∧
 g.2.2.1 + (1 : Int) = g.2.2.1 + (1 : Int) ∧
 True) ∧
 ((g.1 = g.1 ∧
 True) ∧
 g.2.1 ++ (((0 : Int), (0 : Int)) :: ([] : List (Int × Int))).set (0 : Nat) ((6 : Int), (0 : Int)) = g.2.1 ++ (((0 : Int), (0 : Int)) :: ([] : List (Int × Int))).set (0 : Nat) ((6 : Int), (0 : Int)) ∧
 RR g.2.2.2.1 ∧
 RR g.2.2.2.2.1 ∧
 (Z64 = Z64 ∧
 True) ∧
 True) ∧
 True)) ∧
 (((opAt x.1 g.2.2.1).1 == (7 : Int)) = false →
 (decide ((opAt x.1 g.2.2.1).2.2.2.2.1 < (0 : Int)) = false →
 (decide ((16 : Int) ≤ (opAt x.1 g.2.2.1).2.2.2.2.1) = false →
 (0 : Int) ≤ g.1.getD (opAt x.1 g.2.2.1).2.1.toNat (-1 : Int) ∧
 ((0 : Int) ≤ (opAt x.1 g.2.2.1).2.2.2.2.1 ∧
 (opAt x.1 g.2.2.1).2.2.2.2.1 < (↑(16 : Nat) : Int)) ∧
 mhas TB g.2.2.2.1 (g.1.getD (opAt x.1 g.2.2.1).2.1.toNat (-1 : Int)) = true ∧
 (decide (List.getD (mval TB g.2.2.2.1 (g.1.getD (opAt x.1 g.2.2.1).2.1.toNat (-1 : Int))) (opAt x.1 g.2.2.1).2.2.2.2.1.toNat (-1 : Int) < (0 : Int)) = true →
 (g.2.1.length + ((((0 : Int), (0 : Int)) :: ([] : List (Int × Int))).set (0 : Nat) ((3 : Int), (0 : Int))).length ≤ (9223372036854775807 : Nat) ∧
 (g.2.1.length + ((((0 : Int), (0 : Int)) :: ([] : List (Int × Int))).set (0 : Nat) ((3 : Int), (0 : Int))).length + (g.2.1.length + ((((0 : Int), (0 : Int)) :: ([] : List (Int × Int))).set (0 : Nat) ((3 : Int), (0 : Int))).length) / (4 : Nat) + (192 : Nat)) * (16 : Nat) ≤ (281474976710656 : Nat)) ∧
 ((-9223372036854775808 : Int) ≤ g.2.2.1 + (1 : Int) ∧
 g.2.2.1 + (1 : Int) ≤ (9223372036854775807 : Int)) ∧
 (((0 : Int) ≤ g.2.2.1 + (1 : Int) ∧
 g.2.2.1 + (1 : Int) ≤ (↑x.1.length : Int) ∧
 ∃ s, frun (List.take (g.2.2.1 + (1 : Int)).toNat x.1) = (s, g.2.1 ++ (((0 : Int), (0 : Int)) :: ([] : List (Int × Int))).set (0 : Nat) ((3 : Int), (0 : Int))) ∧
 FR s g.1 g.2.2.2.1 g.2.2.2.2.1) ∧
 ((↑x.1.length : Int) - (g.2.2.1 + (1 : Int))).toNat < ((↑x.1.length : Int) - g.2.2.1).toNat) ∧
 ((True ∧
 True) ∧
 (True ∧
 True) ∧
 True ∧
 x.1 = x.1 ∧
 RR (↑x.1.length : Int) ∧
 g.2.2.1 + (1 : Int) = g.2.2.1 + (1 : Int) ∧
 True) ∧
 ((g.1 = g.1 ∧
 True) ∧
 g.2.1 ++ (((0 : Int), (0 : Int)) :: ([] : List (Int × Int))).set (0 : Nat) ((3 : Int), (0 : Int)) = g.2.1 ++ (((0 : Int), (0 : Int)) :: ([] : List (Int × Int))).set (0 : Nat) ((3 : Int), (0 : Int)) ∧
 RR g.2.2.2.1 ∧
 RR g.2.2.2.2.1 ∧
 (Z64 = Z64 ∧
 True) ∧
 True) ∧
 True) ∧
 (decide (List.getD (mval TB g.2.2.2.1 (g.1.getD (opAt x.1 g.2.2.1).2.1.toNat (-1 : Int))) (opAt x.1 g.2.2.1).2.2.2.2.1.toNat (-1 : Int) < (0 : Int)) = false →
 (0 : Int) ≤ g.1.getD (opAt x.1 g.2.2.1).2.1.toNat (-1 : Int) ∧
 ((0 : Int) ≤ (opAt x.1 g.2.2.1).2.2.2.2.1 ∧
 (opAt x.1 g.2.2.1).2.2.2.2.1 < (↑(16 : Nat) : Int)) ∧
 mhas TB g.2.2.2.1 (g.1.getD (opAt x.1 g.2.2.1).2.1.toNat (-1 : Int)) = true ∧
 (((opAt x.1 g.2.2.1).1 == (2 : Int)) = true →
 Holds (mhas TB g.2.2.2.1 (g.1.getD (opAt x.1 g.2.2.1).2.1.toNat (-1 : Int)) = true ∧
 (tbOf g.2.2.2.1 (g.1.getD (opAt x.1 g.2.2.1).2.1.toNat (-1 : Int))).length = (16 : Nat)) ∧
 ((RR (g.1.getD (opAt x.1 g.2.2.1).2.1.toNat (-1 : Int)) ∧
 True) ∧
 RR g.2.2.2.1 ∧
 True) ∧
 ((!(lea (tbOf g.2.2.2.1 (g.1.getD (opAt x.1 g.2.2.1).2.1.toNat (-1 : Int)))).2.1) = true →
 (g.2.1.length + ((((0 : Int), (0 : Int)) :: ([] : List (Int × Int))).set (0 : Nat) ((4 : Int), (0 : Int))).length ≤ (9223372036854775807 : Nat) ∧
 (g.2.1.length + ((((0 : Int), (0 : Int)) :: ([] : List (Int × Int))).set (0 : Nat) ((4 : Int), (0 : Int))).length + (g.2.1.length + ((((0 : Int), (0 : Int)) :: ([] : List (Int × Int))).set (0 : Nat) ((4 : Int), (0 : Int))).length) / (4 : Nat) + (192 : Nat)) * (16 : Nat) ≤ (281474976710656 : Nat)) ∧
 ((-9223372036854775808 : Int) ≤ g.2.2.1 + (1 : Int) ∧
 g.2.2.1 + (1 : Int) ≤ (9223372036854775807 : Int)) ∧
 (((0 : Int) ≤ g.2.2.1 + (1 : Int) ∧
 g.2.2.1 + (1 : Int) ≤ (↑x.1.length : Int) ∧
 ∃ s, frun (List.take (g.2.2.1 + (1 : Int)).toNat x.1) = (s, g.2.1 ++ (((0 : Int), (0 : Int)) :: ([] : List (Int × Int))).set (0 : Nat) ((4 : Int), (0 : Int))) ∧
 FR s g.1 g.2.2.2.1 g.2.2.2.2.1) ∧
 ((↑x.1.length : Int) - (g.2.2.1 + (1 : Int))).toNat < ((↑x.1.length : Int) - g.2.2.1).toNat) ∧
 ((True ∧
 True) ∧
 (True ∧
 True) ∧
 True ∧
 x.1 = x.1 ∧
 RR (↑x.1.length : Int) ∧
 g.2.2.1 + (1 : Int) = g.2.2.1 + (1 : Int) ∧
 True) ∧
 ((g.1 = g.1 ∧
 True) ∧
 g.2.1 ++ (((0 : Int), (0 : Int)) :: ([] : List (Int × Int))).set (0 : Nat) ((4 : Int), (0 : Int)) = g.2.1 ++ (((0 : Int), (0 : Int)) :: ([] : List (Int × Int))).set (0 : Nat) ((4 : Int), (0 : Int)) ∧
 RR g.2.2.2.1 ∧
 RR g.2.2.2.2.1 ∧
 (Z64 = Z64 ∧
 True) ∧
 True) ∧
 True) ∧
 ((!(lea (tbOf g.2.2.2.1 (g.1.getD (opAt x.1 g.2.2.1).2.1.toNat (-1 : Int)))).2.1) = false →
 Holds ((mhas TB g.2.2.2.1 (g.1.getD (opAt x.1 g.2.2.1).2.1.toNat (-1 : Int)) = true ∧
 (0 : Int) ≤ (lea (tbOf g.2.2.2.1 (g.1.getD (opAt x.1 g.2.2.1).2.1.toNat (-1 : Int)))).1 ∧
 (lea (tbOf g.2.2.2.1 (g.1.getD (opAt x.1 g.2.2.1).2.1.toNat (-1 : Int)))).1 < (16 : Int)) ∧
 ((0 : Int) ≤ List.getD (mval TB g.2.2.2.1 (g.1.getD (opAt x.1 g.2.2.1).2.1.toNat (-1 : Int))) (opAt x.1 g.2.2.1).2.2.2.2.1.toNat (-1 : Int) ∧
 mhas tyopen g.2.2.2.2.1 (List.getD (mval TB g.2.2.2.1 (g.1.getD (opAt x.1 g.2.2.1).2.1.toNat (-1 : Int))) (opAt x.1 g.2.2.1).2.2.2.2.1.toNat (-1 : Int)) = true) ∧
 (0 : Int) ≤ (opOf g.2.2.2.2.1 (List.getD (mval TB g.2.2.2.1 (g.1.getD (opAt x.1 g.2.2.1).2.1.toNat (-1 : Int))) (opAt x.1 g.2.2.1).2.2.2.2.1.toNat (-1 : Int))).2.2.2 ∧
 (opOf g.2.2.2.2.1 (List.getD (mval TB g.2.2.2.1 (g.1.getD (opAt x.1 g.2.2.1).2.1.toNat (-1 : Int))) (opAt x.1 g.2.2.1).2.2.2.2.1.toNat (-1 : Int))).2.2.2 ≤ (1000 : Int)) ∧
 ((RR (g.1.getD (opAt x.1 g.2.2.1).2.1.toNat (-1 : Int)) ∧
 RR ((lea (tbOf g.2.2.2.1 (g.1.getD (opAt x.1 g.2.2.1).2.1.toNat (-1 : Int)))).1) ∧
 RR (List.getD (mval TB g.2.2.2.1 (g.1.getD (opAt x.1 g.2.2.1).2.1.toNat (-1 : Int))) (opAt x.1 g.2.2.1).2.2.2.2.1.toNat (-1 : Int)) ∧
 True) ∧
 RR g.2.2.2.1 ∧
 RR g.2.2.2.2.1 ∧
 True) ∧
 (g.2.1.length + ((((0 : Int), (0 : Int)) :: ([] : List (Int × Int))).set (0 : Nat) ((0 : Int), (lea (tbOf g.2.2.2.1 (g.1.getD (opAt x.1 g.2.2.1).2.1.toNat (-1 : Int)))).1)).length ≤ (9223372036854775807 : Nat) ∧
 (g.2.1.length + ((((0 : Int), (0 : Int)) :: ([] : List (Int × Int))).set (0 : Nat) ((0 : Int), (lea (tbOf g.2.2.2.1 (g.1.getD (opAt x.1 g.2.2.1).2.1.toNat (-1 : Int)))).1)).length + (g.2.1.length + ((((0 : Int), (0 : Int)) :: ([] : List (Int × Int))).set (0 : Nat) ((0 : Int), (lea (tbOf g.2.2.2.1 (g.1.getD (opAt x.1 g.2.2.1).2.1.toNat (-1 : Int)))).1)).length) / (4 : Nat) + (192 : Nat)) * (16 : Nat) ≤ (281474976710656 : Nat)) ∧
 ((-9223372036854775808 : Int) ≤ g.2.2.1 + (1 : Int) ∧
 g.2.2.1 + (1 : Int) ≤ (9223372036854775807 : Int)) ∧
 (((0 : Int) ≤ g.2.2.1 + (1 : Int) ∧
 g.2.2.1 + (1 : Int) ≤ (↑x.1.length : Int) ∧
 ∃ s, frun (List.take (g.2.2.1 + (1 : Int)).toNat x.1) = (s, g.2.1 ++ (((0 : Int), (0 : Int)) :: ([] : List (Int × Int))).set (0 : Nat) ((0 : Int), (lea (tbOf g.2.2.2.1 (g.1.getD (opAt x.1 g.2.2.1).2.1.toNat (-1 : Int)))).1)) ∧
 FR s g.1 (tset g.2.2.2.1 (g.1.getD (opAt x.1 g.2.2.1).2.1.toNat (-1 : Int)) (lea (tbOf g.2.2.2.1 (g.1.getD (opAt x.1 g.2.2.1).2.1.toNat (-1 : Int)))).1 (List.getD (mval TB g.2.2.2.1 (g.1.getD (opAt x.1 g.2.2.1).2.1.toNat (-1 : Int))) (opAt x.1 g.2.2.1).2.2.2.2.1.toNat (-1 : Int))) (inc g.2.2.2.2.1 (List.getD (mval TB g.2.2.2.1 (g.1.getD (opAt x.1 g.2.2.1).2.1.toNat (-1 : Int))) (opAt x.1 g.2.2.1).2.2.2.2.1.toNat (-1 : Int)))) ∧
 ((↑x.1.length : Int) - (g.2.2.1 + (1 : Int))).toNat < ((↑x.1.length : Int) - g.2.2.1).toNat) ∧
 ((True ∧
 True) ∧
 (True ∧
 True) ∧
 True ∧
 x.1 = x.1 ∧
 RR (↑x.1.length : Int) ∧
 g.2.2.1 + (1 : Int) = g.2.2.1 + (1 : Int) ∧
 True) ∧
 ((g.1 = g.1 ∧
 True) ∧
 g.2.1 ++ (((0 : Int), (0 : Int)) :: ([] : List (Int × Int))).set (0 : Nat) ((0 : Int), (lea (tbOf g.2.2.2.1 (g.1.getD (opAt x.1 g.2.2.1).2.1.toNat (-1 : Int)))).1) = g.2.1 ++ (((0 : Int), (0 : Int)) :: ([] : List (Int × Int))).set (0 : Nat) ((0 : Int), (lea (tbOf g.2.2.2.1 (g.1.getD (opAt x.1 g.2.2.1).2.1.toNat (-1 : Int)))).1) ∧
 RR (tset g.2.2.2.1 (g.1.getD (opAt x.1 g.2.2.1).2.1.toNat (-1 : Int)) (lea (tbOf g.2.2.2.1 (g.1.getD (opAt x.1 g.2.2.1).2.1.toNat (-1 : Int)))).1 (List.getD (mval TB g.2.2.2.1 (g.1.getD (opAt x.1 g.2.2.1).2.1.toNat (-1 : Int))) (opAt x.1 g.2.2.1).2.2.2.2.1.toNat (-1 : Int))) ∧
 RR (inc g.2.2.2.2.1 (List.getD (mval TB g.2.2.2.1 (g.1.getD (opAt x.1 g.2.2.1).2.1.toNat (-1 : Int))) (opAt x.1 g.2.2.1).2.2.2.2.1.toNat (-1 : Int))) ∧
 (Z64 = Z64 ∧
 True) ∧
 True) ∧
 True)) ∧
 (((opAt x.1 g.2.2.1).1 == (2 : Int)) = false →
 (((opAt x.1 g.2.2.1).1 == (3 : Int)) = true →
 ((!decide ((opAt x.1 g.2.2.1).2.2.2.2.2.1 < (0 : Int))) = true →
 (!decide ((opAt x.1 g.2.2.1).2.2.2.2.2.1 < (0 : Int))) = true) ∧
 ((!decide ((opAt x.1 g.2.2.1).2.2.2.2.2.1 < (0 : Int))) = true →
 (!decide ((opAt x.1 g.2.2.1).2.2.2.2.2.1 < (0 : Int))) = true) ∧
 (decide ((opAt x.1 g.2.2.1).2.2.2.2.2.1 < (0 : Int)) = false →
 (!decide ((opAt x.1 g.2.2.1).2.2.2.2.2.1 < (0 : Int))) = true) ∧
 ((decide ((opAt x.1 g.2.2.1).2.2.2.2.2.1 < (0 : Int)) || decide ((16 : Int) ≤ (opAt x.1 g.2.2.1).2.2.2.2.2.1)) = true →
 (g.2.1.length + ((((0 : Int), (0 : Int)) :: ([] : List (Int × Int))).set (0 : Nat) ((2 : Int), (0 : Int))).length ≤ (9223372036854775807 : Nat) ∧
 (g.2.1.length + ((((0 : Int), (0 : Int)) :: ([] : List (Int × Int))).set (0 : Nat) ((2 : Int), (0 : Int))).length + (g.2.1.length + ((((0 : Int), (0 : Int)) :: ([] : List (Int × Int))).set (0 : Nat) ((2 : Int), (0 : Int))).length) / (4 : Nat) + (192 : Nat)) * (16 : Nat) ≤ (281474976710656 : Nat)) ∧
 ((-9223372036854775808 : Int) ≤ g.2.2.1 + (1 : Int) ∧
 g.2.2.1 + (1 : Int) ≤ (9223372036854775807 : Int)) ∧
 (((0 : Int) ≤ g.2.2.1 + (1 : Int) ∧
 g.2.2.1 + (1 : Int) ≤ (↑x.1.length : Int) ∧
 ∃ s, frun (List.take (g.2.2.1 + (1 : Int)).toNat x.1) = (s, g.2.1 ++ (((0 : Int), (0 : Int)) :: ([] : List (Int × Int))).set (0 : Nat) ((2 : Int), (0 : Int))) ∧
 FR s g.1 g.2.2.2.1 g.2.2.2.2.1) ∧
 ((↑x.1.length : Int) - (g.2.2.1 + (1 : Int))).toNat < ((↑x.1.length : Int) - g.2.2.1).toNat) ∧
 ((True ∧
 True) ∧
 (True ∧
 True) ∧
 True ∧
 x.1 = x.1 ∧
 RR (↑x.1.length : Int) ∧
 g.2.2.1 + (1 : Int) = g.2.2.1 + (1 : Int) ∧
 True) ∧
 ((g.1 = g.1 ∧
 True) ∧
 g.2.1 ++ (((0 : Int), (0 : Int)) :: ([] : List (Int × Int))).set (0 : Nat) ((2 : Int), (0 : Int)) = g.2.1 ++ (((0 : Int), (0 : Int)) :: ([] : List (Int × Int))).set (0 : Nat) ((2 : Int), (0 : Int)) ∧
 RR g.2.2.2.1 ∧
 RR g.2.2.2.2.1 ∧
 (Z64 = Z64 ∧
 True) ∧
 True) ∧
 True) ∧
 ((decide ((opAt x.1 g.2.2.1).2.2.2.2.2.1 < (0 : Int)) || decide ((16 : Int) ≤ (opAt x.1 g.2.2.1).2.2.2.2.2.1)) = false →
 (((opAt x.1 g.2.2.1).2.2.2.2.2.1 != (opAt x.1 g.2.2.1).2.2.2.2.1) = true →
 Holds (((mhas TB g.2.2.2.1 (g.1.getD (opAt x.1 g.2.2.1).2.1.toNat (-1 : Int)) = true ∧
 (0 : Int) ≤ (opAt x.1 g.2.2.1).2.2.2.2.2.1 ∧
 (opAt x.1 g.2.2.1).2.2.2.2.2.1 < (16 : Int)) ∧
 (tbOf g.2.2.2.1 (g.1.getD (opAt x.1 g.2.2.1).2.1.toNat (-1 : Int))).length = (16 : Nat)) ∧
 ((0 : Int) ≤ (tbOf g.2.2.2.1 (g.1.getD (opAt x.1 g.2.2.1).2.1.toNat (-1 : Int))).getD (opAt x.1 g.2.2.1).2.2.2.2.2.1.toNat (0 : Int) →
 mhas tyopen g.2.2.2.2.1 ((tbOf g.2.2.2.1 (g.1.getD (opAt x.1 g.2.2.1).2.1.toNat (-1 : Int))).getD (opAt x.1 g.2.2.1).2.2.2.2.2.1.toNat (0 : Int)) = true ∧
 (0 : Int) ≤ (opOf g.2.2.2.2.1 ((tbOf g.2.2.2.1 (g.1.getD (opAt x.1 g.2.2.1).2.1.toNat (-1 : Int))).getD (opAt x.1 g.2.2.1).2.2.2.2.2.1.toNat (0 : Int))).2.2.2 ∧
 (opOf g.2.2.2.2.1 ((tbOf g.2.2.2.1 (g.1.getD (opAt x.1 g.2.2.1).2.1.toNat (-1 : Int))).getD (opAt x.1 g.2.2.1).2.2.2.2.2.1.toNat (0 : Int))).2.2.2 ≤ (1000 : Int))) ∧
 ((RR (g.1.getD (opAt x.1 g.2.2.1).2.1.toNat (-1 : Int)) ∧
 RR ((opAt x.1 g.2.2.1).2.2.2.2.2.1) ∧
 True) ∧
 RR g.2.2.2.1 ∧
 RR g.2.2.2.2.1 ∧
 True) ∧
 Holds ((mhas TB (tdrop g.2.2.2.1 (g.1.getD (opAt x.1 g.2.2.1).2.1.toNat (-1 : Int)) (opAt x.1 g.2.2.1).2.2.2.2.2.1) (g.1.getD (opAt x.1 g.2.2.1).2.1.toNat (-1 : Int)) = true ∧
 (0 : Int) ≤ (opAt x.1 g.2.2.1).2.2.2.2.2.1 ∧
 (opAt x.1 g.2.2.1).2.2.2.2.2.1 < (16 : Int)) ∧
 ((0 : Int) ≤ List.getD (mval TB g.2.2.2.1 (g.1.getD (opAt x.1 g.2.2.1).2.1.toNat (-1 : Int))) (opAt x.1 g.2.2.1).2.2.2.2.1.toNat (-1 : Int) ∧
 mhas tyopen (dec g.2.2.2.2.1 ((tbOf g.2.2.2.1 (g.1.getD (opAt x.1 g.2.2.1).2.1.toNat (-1 : Int))).getD (opAt x.1 g.2.2.1).2.2.2.2.2.1.toNat (0 : Int))) (List.getD (mval TB g.2.2.2.1 (g.1.getD (opAt x.1 g.2.2.1).2.1.toNat (-1 : Int))) (opAt x.1 g.2.2.1).2.2.2.2.1.toNat (-1 : Int)) = true) ∧
 (0 : Int) ≤ (opOf (dec g.2.2.2.2.1 ((tbOf g.2.2.2.1 (g.1.getD (opAt x.1 g.2.2.1).2.1.toNat (-1 : Int))).getD (opAt x.1 g.2.2.1).2.2.2.2.2.1.toNat (0 : Int))) (List.getD (mval TB g.2.2.2.1 (g.1.getD (opAt x.1 g.2.2.1).2.1.toNat (-1 : Int))) (opAt x.1 g.2.2.1).2.2.2.2.1.toNat (-1 : Int))).2.2.2 ∧
 (opOf (dec g.2.2.2.2.1 ((tbOf g.2.2.2.1 (g.1.getD (opAt x.1 g.2.2.1).2.1.toNat (-1 : Int))).getD (opAt x.1 g.2.2.1).2.2.2.2.2.1.toNat (0 : Int))) (List.getD (mval TB g.2.2.2.1 (g.1.getD (opAt x.1 g.2.2.1).2.1.toNat (-1 : Int))) (opAt x.1 g.2.2.1).2.2.2.2.1.toNat (-1 : Int))).2.2.2 ≤ (1000 : Int)) ∧
 ((RR (g.1.getD (opAt x.1 g.2.2.1).2.1.toNat (-1 : Int)) ∧
 RR ((opAt x.1 g.2.2.1).2.2.2.2.2.1) ∧
 RR (List.getD (mval TB g.2.2.2.1 (g.1.getD (opAt x.1 g.2.2.1).2.1.toNat (-1 : Int))) (opAt x.1 g.2.2.1).2.2.2.2.1.toNat (-1 : Int)) ∧
 True) ∧
 RR (tdrop g.2.2.2.1 (g.1.getD (opAt x.1 g.2.2.1).2.1.toNat (-1 : Int)) (opAt x.1 g.2.2.1).2.2.2.2.2.1) ∧
 RR (dec g.2.2.2.2.1 ((tbOf g.2.2.2.1 (g.1.getD (opAt x.1 g.2.2.1).2.1.toNat (-1 : Int))).getD (opAt x.1 g.2.2.1).2.2.2.2.2.1.toNat (0 : Int))) ∧
 True) ∧
 (g.2.1.length + ((((0 : Int), (0 : Int)) :: ([] : List (Int × Int))).set (0 : Nat) ((0 : Int), (opAt x.1 g.2.2.1).2.2.2.2.2.1)).length ≤ (9223372036854775807 : Nat) ∧
 (g.2.1.length + ((((0 : Int), (0 : Int)) :: ([] : List (Int × Int))).set (0 : Nat) ((0 : Int), (opAt x.1 g.2.2.1).2.2.2.2.2.1)).length + (g.2.1.length + ((((0 : Int), (0 : Int)) :: ([] : List (Int × Int))).set (0 : Nat) ((0 : Int), (opAt x.1 g.2.2.1).2.2.2.2.2.1)).length) / (4 : Nat) + (192 : Nat)) * (16 : Nat) ≤ (281474976710656 : Nat)) ∧
 ((-9223372036854775808 : Int) ≤ g.2.2.1 + (1 : Int) ∧
 g.2.2.1 + (1 : Int) ≤ (9223372036854775807 : Int)) ∧
 (((0 : Int) ≤ g.2.2.1 + (1 : Int) ∧
 g.2.2.1 + (1 : Int) ≤ (↑x.1.length : Int) ∧
 ∃ s, frun (List.take (g.2.2.1 + (1 : Int)).toNat x.1) = (s, g.2.1 ++ (((0 : Int), (0 : Int)) :: ([] : List (Int × Int))).set (0 : Nat) ((0 : Int), (opAt x.1 g.2.2.1).2.2.2.2.2.1)) ∧
 FR s g.1 (tset (tdrop g.2.2.2.1 (g.1.getD (opAt x.1 g.2.2.1).2.1.toNat (-1 : Int)) (opAt x.1 g.2.2.1).2.2.2.2.2.1) (g.1.getD (opAt x.1 g.2.2.1).2.1.toNat (-1 : Int)) (opAt x.1 g.2.2.1).2.2.2.2.2.1 (List.getD (mval TB g.2.2.2.1 (g.1.getD (opAt x.1 g.2.2.1).2.1.toNat (-1 : Int))) (opAt x.1 g.2.2.1).2.2.2.2.1.toNat (-1 : Int))) (inc (dec g.2.2.2.2.1 ((tbOf g.2.2.2.1 (g.1.getD (opAt x.1 g.2.2.1).2.1.toNat (-1 : Int))).getD (opAt x.1 g.2.2.1).2.2.2.2.2.1.toNat (0 : Int))) (List.getD (mval TB g.2.2.2.1 (g.1.getD (opAt x.1 g.2.2.1).2.1.toNat (-1 : Int))) (opAt x.1 g.2.2.1).2.2.2.2.1.toNat (-1 : Int)))) ∧
 ((↑x.1.length : Int) - (g.2.2.1 + (1 : Int))).toNat < ((↑x.1.length : Int) - g.2.2.1).toNat) ∧
 ((True ∧
 True) ∧
 (True ∧
 True) ∧
 True ∧
 x.1 = x.1 ∧
 RR (↑x.1.length : Int) ∧
 g.2.2.1 + (1 : Int) = g.2.2.1 + (1 : Int) ∧
 True) ∧
 ((g.1 = g.1 ∧
 True) ∧
 g.2.1 ++ (((0 : Int), (0 : Int)) :: ([] : List (Int × Int))).set (0 : Nat) ((0 : Int), (opAt x.1 g.2.2.1).2.2.2.2.2.1) = g.2.1 ++ (((0 : Int), (0 : Int)) :: ([] : List (Int × Int))).set (0 : Nat) ((0 : Int), (opAt x.1 g.2.2.1).2.2.2.2.2.1) ∧
 RR (tset (tdrop g.2.2.2.1 (g.1.getD (opAt x.1 g.2.2.1).2.1.toNat (-1 : Int)) (opAt x.1 g.2.2.1).2.2.2.2.2.1) (g.1.getD (opAt x.1 g.2.2.1).2.1.toNat (-1 : Int)) (opAt x.1 g.2.2.1).2.2.2.2.2.1 (List.getD (mval TB g.2.2.2.1 (g.1.getD (opAt x.1 g.2.2.1).2.1.toNat (-1 : Int))) (opAt x.1 g.2.2.1).2.2.2.2.1.toNat (-1 : Int))) ∧
 inc (dec g.2.2.2.2.1 ((tbOf g.2.2.2.1 (g.1.getD (opAt x.1 g.2.2.1).2.1.toNat (-1 : Int))).getD (opAt x.1 g.2.2.1).2.2.2.2.2.1.toNat (0 : Int))) (List.getD (mval TB g.2.2.2.1 (g.1.getD (opAt x.1 g.2.2.1).2.1.toNat (-1 : Int))) (opAt x.1 g.2.2.1).2.2.2.2.1.toNat (-1 : Int)) = inc (dec g.2.2.2.2.1 ((tbOf g.2.2.2.1 (g.1.getD (opAt x.1 g.2.2.1).2.1.toNat (-1 : Int))).getD (opAt x.1 g.2.2.1).2.2.2.2.2.1.toNat (0 : Int))) (List.getD (mval TB g.2.2.2.1 (g.1.getD (opAt x.1 g.2.2.1).2.1.toNat (-1 : Int))) (opAt x.1 g.2.2.1).2.2.2.2.1.toNat (-1 : Int)) ∧
 (Z64 = Z64 ∧
 True) ∧
 True) ∧
 True) ∧
 (((opAt x.1 g.2.2.1).2.2.2.2.2.1 != (opAt x.1 g.2.2.1).2.2.2.2.1) = false →
 (g.2.1.length + ((((0 : Int), (0 : Int)) :: ([] : List (Int × Int))).set (0 : Nat) ((0 : Int), (opAt x.1 g.2.2.1).2.2.2.2.2.1)).length ≤ (9223372036854775807 : Nat) ∧
 (g.2.1.length + ((((0 : Int), (0 : Int)) :: ([] : List (Int × Int))).set (0 : Nat) ((0 : Int), (opAt x.1 g.2.2.1).2.2.2.2.2.1)).length + (g.2.1.length + ((((0 : Int), (0 : Int)) :: ([] : List (Int × Int))).set (0 : Nat) ((0 : Int), (opAt x.1 g.2.2.1).2.2.2.2.2.1)).length) / (4 : Nat) + (192 : Nat)) * (16 : Nat) ≤ (281474976710656 : Nat)) ∧
 ((-9223372036854775808 : Int) ≤ g.2.2.1 + (1 : Int) ∧
 g.2.2.1 + (1 : Int) ≤ (9223372036854775807 : Int)) ∧
 (((0 : Int) ≤ g.2.2.1 + (1 : Int) ∧
 g.2.2.1 + (1 : Int) ≤ (↑x.1.length : Int) ∧
 ∃ s, frun (List.take (g.2.2.1 + (1 : Int)).toNat x.1) = (s, g.2.1 ++ (((0 : Int), (0 : Int)) :: ([] : List (Int × Int))).set (0 : Nat) ((0 : Int), (opAt x.1 g.2.2.1).2.2.2.2.2.1)) ∧
 FR s g.1 g.2.2.2.1 g.2.2.2.2.1) ∧
 ((↑x.1.length : Int) - (g.2.2.1 + (1 : Int))).toNat < ((↑x.1.length : Int) - g.2.2.1).toNat) ∧
 ((True ∧
 True) ∧
 (True ∧
 True) ∧
 True ∧
 x.1 = x.1 ∧
 RR (↑x.1.length : Int) ∧
 g.2.2.1 + (1 : Int) = g.2.2.1 + (1 : Int) ∧
 True) ∧
 ((g.1 = g.1 ∧
 True) ∧
 g.2.1 ++ (((0 : Int), (0 : Int)) :: ([] : List (Int × Int))).set (0 : Nat) ((0 : Int), (opAt x.1 g.2.2.1).2.2.2.2.2.1) = g.2.1 ++ (((0 : Int), (0 : Int)) :: ([] : List (Int × Int))).set (0 : Nat) ((0 : Int), (opAt x.1 g.2.2.1).2.2.2.2.2.1) ∧
 RR g.2.2.2.1 ∧
 RR g.2.2.2.2.1 ∧
 (Z64 = Z64 ∧
 True) ∧
 True) ∧
 True))) ∧
 (((opAt x.1 g.2.2.1).1 == (3 : Int)) = false →
 (((opAt x.1 g.2.2.1).1 == (4 : Int)) = true →
 Holds (((mhas TB g.2.2.2.1 (g.1.getD (opAt x.1 g.2.2.1).2.1.toNat (-1 : Int)) = true ∧
 (0 : Int) ≤ (opAt x.1 g.2.2.1).2.2.2.2.1 ∧
 (opAt x.1 g.2.2.1).2.2.2.2.1 < (16 : Int)) ∧
 (tbOf g.2.2.2.1 (g.1.getD (opAt x.1 g.2.2.1).2.1.toNat (-1 : Int))).length = (16 : Nat)) ∧
 ((0 : Int) ≤ (tbOf g.2.2.2.1 (g.1.getD (opAt x.1 g.2.2.1).2.1.toNat (-1 : Int))).getD (opAt x.1 g.2.2.1).2.2.2.2.1.toNat (0 : Int) →
 mhas tyopen g.2.2.2.2.1 ((tbOf g.2.2.2.1 (g.1.getD (opAt x.1 g.2.2.1).2.1.toNat (-1 : Int))).getD (opAt x.1 g.2.2.1).2.2.2.2.1.toNat (0 : Int)) = true ∧
 (0 : Int) ≤ (opOf g.2.2.2.2.1 ((tbOf g.2.2.2.1 (g.1.getD (opAt x.1 g.2.2.1).2.1.toNat (-1 : Int))).getD (opAt x.1 g.2.2.1).2.2.2.2.1.toNat (0 : Int))).2.2.2 ∧
 (opOf g.2.2.2.2.1 ((tbOf g.2.2.2.1 (g.1.getD (opAt x.1 g.2.2.1).2.1.toNat (-1 : Int))).getD (opAt x.1 g.2.2.1).2.2.2.2.1.toNat (0 : Int))).2.2.2 ≤ (1000 : Int))) ∧
 ((RR (g.1.getD (opAt x.1 g.2.2.1).2.1.toNat (-1 : Int)) ∧
 RR ((opAt x.1 g.2.2.1).2.2.2.2.1) ∧
 True) ∧
 RR g.2.2.2.1 ∧
 RR g.2.2.2.2.1 ∧
 True) ∧
 (0 : Int) ≤ List.getD (mval TB g.2.2.2.1 (g.1.getD (opAt x.1 g.2.2.1).2.1.toNat (-1 : Int))) (opAt x.1 g.2.2.1).2.2.2.2.1.toNat (-1 : Int) ∧
 mhas tyopen (dec g.2.2.2.2.1 ((tbOf g.2.2.2.1 (g.1.getD (opAt x.1 g.2.2.1).2.1.toNat (-1 : Int))).getD (opAt x.1 g.2.2.1).2.2.2.2.1.toNat (0 : Int))) (List.getD (mval TB g.2.2.2.1 (g.1.getD (opAt x.1 g.2.2.1).2.1.toNat (-1 : Int))) (opAt x.1 g.2.2.1).2.2.2.2.1.toNat (-1 : Int)) = true ∧
 (g.2.1.length + ((((0 : Int), (0 : Int)) :: ([] : List (Int × Int))).set (0 : Nat) ((0 : Int), (mval tyopen (dec g.2.2.2.2.1 ((tbOf g.2.2.2.1 (g.1.getD (opAt x.1 g.2.2.1).2.1.toNat (-1 : Int))).getD (opAt x.1 g.2.2.1).2.2.2.2.1.toNat (0 : Int))) (List.getD (mval TB g.2.2.2.1 (g.1.getD (opAt x.1 g.2.2.1).2.1.toNat (-1 : Int))) (opAt x.1 g.2.2.1).2.2.2.2.1.toNat (-1 : Int))).2.2.2)).length ≤ (9223372036854775807 : Nat) ∧
 (g.2.1.length + ((((0 : Int), (0 : Int)) :: ([] : List (Int × Int))).set (0 : Nat) ((0 : Int), (mval tyopen (dec g.2.2.2.2.1 ((tbOf g.2.2.2.1 (g.1.getD (opAt x.1 g.2.2.1).2.1.toNat (-1 : Int))).getD (opAt x.1 g.2.2.1).2.2.2.2.1.toNat (0 : Int))) (List.getD (mval TB g.2.2.2.1 (g.1.getD (opAt x.1 g.2.2.1).2.1.toNat (-1 : Int))) (opAt x.1 g.2.2.1).2.2.2.2.1.toNat (-1 : Int))).2.2.2)).length + (g.2.1.length + ((((0 : Int), (0 : Int)) :: ([] : List (Int × Int))).set (0 : Nat) ((0 : Int), (mval tyopen (dec g.2.2.2.2.1 ((tbOf g.2.2.2.1 (g.1.getD (opAt x.1 g.2.2.1).2.1.toNat (-1 : Int))).getD (opAt x.1 g.2.2.1).2.2.2.2.1.toNat (0 : Int))) (List.getD (mval TB g.2.2.2.1 (g.1.getD (opAt x.1 g.2.2.1).2.1.toNat (-1 : Int))) (opAt x.1 g.2.2.1).2.2.2.2.1.toNat (-1 : Int))).2.2.2)).length) / (4 : Nat) + (192 : Nat)) * (16 : Nat) ≤ (281474976710656 : Nat)) ∧
 ((-9223372036854775808 : Int) ≤ g.2.2.1 + (1 : Int) ∧
 g.2.2.1 + (1 : Int) ≤ (9223372036854775807 : Int)) ∧
 (((0 : Int) ≤ g.2.2.1 + (1 : Int) ∧
 g.2.2.1 + (1 : Int) ≤ (↑x.1.length : Int) ∧
 ∃ s, frun (List.take (g.2.2.1 + (1 : Int)).toNat x.1) = (s, g.2.1 ++ (((0 : Int), (0 : Int)) :: ([] : List (Int × Int))).set (0 : Nat) ((0 : Int), (mval tyopen (dec g.2.2.2.2.1 ((tbOf g.2.2.2.1 (g.1.getD (opAt x.1 g.2.2.1).2.1.toNat (-1 : Int))).getD (opAt x.1 g.2.2.1).2.2.2.2.1.toNat (0 : Int))) (List.getD (mval TB g.2.2.2.1 (g.1.getD (opAt x.1 g.2.2.1).2.1.toNat (-1 : Int))) (opAt x.1 g.2.2.1).2.2.2.2.1.toNat (-1 : Int))).2.2.2)) ∧
 FR s g.1 (tdrop g.2.2.2.1 (g.1.getD (opAt x.1 g.2.2.1).2.1.toNat (-1 : Int)) (opAt x.1 g.2.2.1).2.2.2.2.1) (dec g.2.2.2.2.1 ((tbOf g.2.2.2.1 (g.1.getD (opAt x.1 g.2.2.1).2.1.toNat (-1 : Int))).getD (opAt x.1 g.2.2.1).2.2.2.2.1.toNat (0 : Int)))) ∧
 ((↑x.1.length : Int) - (g.2.2.1 + (1 : Int))).toNat < ((↑x.1.length : Int) - g.2.2.1).toNat) ∧
 ((True ∧
 True) ∧
 (True ∧
 True) ∧
 True ∧
 x.1 = x.1 ∧
 RR (↑x.1.length : Int) ∧
 g.2.2.1 + (1 : Int) = g.2.2.1 + (1 : Int) ∧
 True) ∧
 ((g.1 = g.1 ∧
 True) ∧
 g.2.1 ++ (((0 : Int), (0 : Int)) :: ([] : List (Int × Int))).set (0 : Nat) ((0 : Int), (mval tyopen (dec g.2.2.2.2.1 ((tbOf g.2.2.2.1 (g.1.getD (opAt x.1 g.2.2.1).2.1.toNat (-1 : Int))).getD (opAt x.1 g.2.2.1).2.2.2.2.1.toNat (0 : Int))) (List.getD (mval TB g.2.2.2.1 (g.1.getD (opAt x.1 g.2.2.1).2.1.toNat (-1 : Int))) (opAt x.1 g.2.2.1).2.2.2.2.1.toNat (-1 : Int))).2.2.2) = g.2.1 ++ (((0 : Int), (0 : Int)) :: ([] : List (Int × Int))).set (0 : Nat) ((0 : Int), (mval tyopen (dec g.2.2.2.2.1 ((tbOf g.2.2.2.1 (g.1.getD (opAt x.1 g.2.2.1).2.1.toNat (-1 : Int))).getD (opAt x.1 g.2.2.1).2.2.2.2.1.toNat (0 : Int))) (List.getD (mval TB g.2.2.2.1 (g.1.getD (opAt x.1 g.2.2.1).2.1.toNat (-1 : Int))) (opAt x.1 g.2.2.1).2.2.2.2.1.toNat (-1 : Int))).2.2.2) ∧
 RR (tdrop g.2.2.2.1 (g.1.getD (opAt x.1 g.2.2.1).2.1.toNat (-1 : Int)) (opAt x.1 g.2.2.1).2.2.2.2.1) ∧
 RR (dec g.2.2.2.2.1 ((tbOf g.2.2.2.1 (g.1.getD (opAt x.1 g.2.2.1).2.1.toNat (-1 : Int))).getD (opAt x.1 g.2.2.1).2.2.2.2.1.toNat (0 : Int))) ∧
 (Z64 = Z64 ∧
 True) ∧
 True) ∧
 True) ∧
 (((opAt x.1 g.2.2.1).1 == (4 : Int)) = false →
 (((opAt x.1 g.2.2.1).1 == (6 : Int)) = true →
 ((!decide ((opAt x.1 g.2.2.1).2.2.2.2.2.2 < (0 : Int))) = true →
 (!decide ((opAt x.1 g.2.2.1).2.2.2.2.2.2 < (0 : Int))) = true) ∧
 ((!decide ((opAt x.1 g.2.2.1).2.2.2.2.2.2 < (0 : Int))) = true →
 (!decide ((opAt x.1 g.2.2.1).2.2.2.2.2.2 < (0 : Int))) = true) ∧
 (decide ((opAt x.1 g.2.2.1).2.2.2.2.2.2 < (0 : Int)) = false →
 (!decide ((opAt x.1 g.2.2.1).2.2.2.2.2.2 < (0 : Int))) = true) ∧
 ((decide ((opAt x.1 g.2.2.1).2.2.2.2.2.2 < (0 : Int)) || decide ((1099511627776 : Int) < (opAt x.1 g.2.2.1).2.2.2.2.2.2)) = true →
 (g.2.1.length + ((((0 : Int), (0 : Int)) :: ([] : List (Int × Int))).set (0 : Nat) ((2 : Int), (0 : Int))).length ≤ (9223372036854775807 : Nat) ∧
 (g.2.1.length + ((((0 : Int), (0 : Int)) :: ([] : List (Int × Int))).set (0 : Nat) ((2 : Int), (0 : Int))).length + (g.2.1.length + ((((0 : Int), (0 : Int)) :: ([] : List (Int × Int))).set (0 : Nat) ((2 : Int), (0 : Int))).length) / (4 : Nat) + (192 : Nat)) * (16 : Nat) ≤ (281474976710656 : Nat)) ∧
 ((-9223372036854775808 : Int) ≤ g.2.2.1 + (1 : Int) ∧
 g.2.2.1 + (1 : Int) ≤ (9223372036854775807 : Int)) ∧
 (((0 : Int) ≤ g.2.2.1 + (1 : Int) ∧
 g.2.2.1 + (1 : Int) ≤ (↑x.1.length : Int) ∧
 ∃ s, frun (List.take (g.2.2.1 + (1 : Int)).toNat x.1) = (s, g.2.1 ++ (((0 : Int), (0 : Int)) :: ([] : List (Int × Int))).set (0 : Nat) ((2 : Int), (0 : Int))) ∧
 FR s g.1 g.2.2.2.1 g.2.2.2.2.1) ∧
 ((↑x.1.length : Int) - (g.2.2.1 + (1 : Int))).toNat < ((↑x.1.length : Int) - g.2.2.1).toNat) ∧
 ((True ∧
 True) ∧
 (True ∧
 True) ∧
 True ∧
 x.1 = x.1 ∧
 RR (↑x.1.length : Int) ∧
 g.2.2.1 + (1 : Int) = g.2.2.1 + (1 : Int) ∧
 True) ∧
 ((g.1 = g.1 ∧
 True) ∧
 g.2.1 ++ (((0 : Int), (0 : Int)) :: ([] : List (Int × Int))).set (0 : Nat) ((2 : Int), (0 : Int)) = g.2.1 ++ (((0 : Int), (0 : Int)) :: ([] : List (Int × Int))).set (0 : Nat) ((2 : Int), (0 : Int)) ∧
 RR g.2.2.2.1 ∧
 RR g.2.2.2.2.1 ∧
 (Z64 = Z64 ∧
 True) ∧
 True) ∧
 True) ∧
 ((decide ((opAt x.1 g.2.2.1).2.2.2.2.2.2 < (0 : Int)) || decide ((1099511627776 : Int) < (opAt x.1 g.2.2.1).2.2.2.2.2.2)) = false →
 (0 : Int) ≤ List.getD (mval TB g.2.2.2.1 (g.1.getD (opAt x.1 g.2.2.1).2.1.toNat (-1 : Int))) (opAt x.1 g.2.2.1).2.2.2.2.1.toNat (-1 : Int) ∧
 mhas tyopen g.2.2.2.2.1 (List.getD (mval TB g.2.2.2.1 (g.1.getD (opAt x.1 g.2.2.1).2.1.toNat (-1 : Int))) (opAt x.1 g.2.2.1).2.2.2.2.1.toNat (-1 : Int)) = true ∧
 (0 : Int) ≤ List.getD (mval TB g.2.2.2.1 (g.1.getD (opAt x.1 g.2.2.1).2.1.toNat (-1 : Int))) (opAt x.1 g.2.2.1).2.2.2.2.1.toNat (-1 : Int) ∧
 mhas tyopen (mput tyopen g.2.2.2.2.1 (List.getD (mval TB g.2.2.2.1 (g.1.getD (opAt x.1 g.2.2.1).2.1.toNat (-1 : Int))) (opAt x.1 g.2.2.1).2.2.2.2.1.toNat (-1 : Int)) ((mval tyopen g.2.2.2.2.1 (List.getD (mval TB g.2.2.2.1 (g.1.getD (opAt x.1 g.2.2.1).2.1.toNat (-1 : Int))) (opAt x.1 g.2.2.1).2.2.2.2.1.toNat (-1 : Int))).1, (mval tyopen g.2.2.2.2.1 (List.getD (mval TB g.2.2.2.1 (g.1.getD (opAt x.1 g.2.2.1).2.1.toNat (-1 : Int))) (opAt x.1 g.2.2.1).2.2.2.2.1.toNat (-1 : Int))).2.1, (opAt x.1 g.2.2.1).2.2.2.2.2.2, (mval tyopen g.2.2.2.2.1 (List.getD (mval TB g.2.2.2.1 (g.1.getD (opAt x.1 g.2.2.1).2.1.toNat (-1 : Int))) (opAt x.1 g.2.2.1).2.2.2.2.1.toNat (-1 : Int))).2.2.2)) (List.getD (mval TB g.2.2.2.1 (g.1.getD (opAt x.1 g.2.2.1).2.1.toNat (-1 : Int))) (opAt x.1 g.2.2.1).2.2.2.2.1.toNat (-1 : Int)) = true ∧
 (g.2.1.length + ((((0 : Int), (0 : Int)) :: ([] : List (Int × Int))).set (0 : Nat) ((0 : Int), (mval tyopen (mput tyopen g.2.2.2.2.1 (List.getD (mval TB g.2.2.2.1 (g.1.getD (opAt x.1 g.2.2.1).2.1.toNat (-1 : Int))) (opAt x.1 g.2.2.1).2.2.2.2.1.toNat (-1 : Int)) ((mval tyopen g.2.2.2.2.1 (List.getD (mval TB g.2.2.2.1 (g.1.getD (opAt x.1 g.2.2.1).2.1.toNat (-1 : Int))) (opAt x.1 g.2.2.1).2.2.2.2.1.toNat (-1 : Int))).1, (mval tyopen g.2.2.2.2.1 (List.getD (mval TB g.2.2.2.1 (g.1.getD (opAt x.1 g.2.2.1).2.1.toNat (-1 : Int))) (opAt x.1 g.2.2.1).2.2.2.2.1.toNat (-1 : Int))).2.1, (opAt x.1 g.2.2.1).2.2.2.2.2.2, (mval tyopen g.2.2.2.2.1 (List.getD (mval TB g.2.2.2.1 (g.1.getD (opAt x.1 g.2.2.1).2.1.toNat (-1 : Int))) (opAt x.1 g.2.2.1).2.2.2.2.1.toNat (-1 : Int))).2.2.2)) (List.getD (mval TB g.2.2.2.1 (g.1.getD (opAt x.1 g.2.2.1).2.1.toNat (-1 : Int))) (opAt x.1 g.2.2.1).2.2.2.2.1.toNat (-1 : Int))).2.2.1)).length ≤ (9223372036854775807 : Nat) ∧
 (g.2.1.length + ((((0 : Int), (0 : Int)) :: ([] : List (Int × Int))).set (0 : Nat) ((0 : Int), (mval tyopen (mput tyopen g.2.2.2.2.1 (List.getD (mval TB g.2.2.2.1 (g.1.getD (opAt x.1 g.2.2.1).2.1.toNat (-1 : Int))) (opAt x.1 g.2.2.1).2.2.2.2.1.toNat (-1 : Int)) ((mval tyopen g.2.2.2.2.1 (List.getD (mval TB g.2.2.2.1 (g.1.getD (opAt x.1 g.2.2.1).2.1.toNat (-1 : Int))) (opAt x.1 g.2.2.1).2.2.2.2.1.toNat (-1 : Int))).1, (mval tyopen g.2.2.2.2.1 (List.getD (mval TB g.2.2.2.1 (g.1.getD (opAt x.1 g.2.2.1).2.1.toNat (-1 : Int))) (opAt x.1 g.2.2.1).2.2.2.2.1.toNat (-1 : Int))).2.1, (opAt x.1 g.2.2.1).2.2.2.2.2.2, (mval tyopen g.2.2.2.2.1 (List.getD (mval TB g.2.2.2.1 (g.1.getD (opAt x.1 g.2.2.1).2.1.toNat (-1 : Int))) (opAt x.1 g.2.2.1).2.2.2.2.1.toNat (-1 : Int))).2.2.2)) (List.getD (mval TB g.2.2.2.1 (g.1.getD (opAt x.1 g.2.2.1).2.1.toNat (-1 : Int))) (opAt x.1 g.2.2.1).2.2.2.2.1.toNat (-1 : Int))).2.2.1)).length + (g.2.1.length + ((((0 : Int), (0 : Int)) :: ([] : List (Int × Int))).set (0 : Nat) ((0 : Int), (mval tyopen (mput tyopen g.2.2.2.2.1 (List.getD (mval TB g.2.2.2.1 (g.1.getD (opAt x.1 g.2.2.1).2.1.toNat (-1 : Int))) (opAt x.1 g.2.2.1).2.2.2.2.1.toNat (-1 : Int)) ((mval tyopen g.2.2.2.2.1 (List.getD (mval TB g.2.2.2.1 (g.1.getD (opAt x.1 g.2.2.1).2.1.toNat (-1 : Int))) (opAt x.1 g.2.2.1).2.2.2.2.1.toNat (-1 : Int))).1, (mval tyopen g.2.2.2.2.1 (List.getD (mval TB g.2.2.2.1 (g.1.getD (opAt x.1 g.2.2.1).2.1.toNat (-1 : Int))) (opAt x.1 g.2.2.1).2.2.2.2.1.toNat (-1 : Int))).2.1, (opAt x.1 g.2.2.1).2.2.2.2.2.2, (mval tyopen g.2.2.2.2.1 (List.getD (mval TB g.2.2.2.1 (g.1.getD (opAt x.1 g.2.2.1).2.1.toNat (-1 : Int))) (opAt x.1 g.2.2.1).2.2.2.2.1.toNat (-1 : Int))).2.2.2)) (List.getD (mval TB g.2.2.2.1 (g.1.getD (opAt x.1 g.2.2.1).2.1.toNat (-1 : Int))) (opAt x.1 g.2.2.1).2.2.2.2.1.toNat (-1 : Int))).2.2.1)).length) / (4 : Nat) + (192 : Nat)) * (16 : Nat) ≤ (281474976710656 : Nat)) ∧
 ((-9223372036854775808 : Int) ≤ g.2.2.1 + (1 : Int) ∧
 g.2.2.1 + (1 : Int) ≤ (9223372036854775807 : Int)) ∧
 (((0 : Int) ≤ g.2.2.1 + (1 : Int) ∧
 g.2.2.1 + (1 : Int) ≤ (↑x.1.length : Int) ∧
 ∃ s, frun (List.take (g.2.2.1 + (1 : Int)).toNat x.1) = (s, g.2.1 ++ (((0 : Int), (0 : Int)) :: ([] : List (Int × Int))).set (0 : Nat) ((0 : Int), (mval tyopen (mput tyopen g.2.2.2.2.1 (List.getD (mval TB g.2.2.2.1 (g.1.getD (opAt x.1 g.2.2.1).2.1.toNat (-1 : Int))) (opAt x.1 g.2.2.1).2.2.2.2.1.toNat (-1 : Int)) ((mval tyopen g.2.2.2.2.1 (List.getD (mval TB g.2.2.2.1 (g.1.getD (opAt x.1 g.2.2.1).2.1.toNat (-1 : Int))) (opAt x.1 g.2.2.1).2.2.2.2.1.toNat (-1 : Int))).1, (mval tyopen g.2.2.2.2.1 (List.getD (mval TB g.2.2.2.1 (g.1.getD (opAt x.1 g.2.2.1).2.1.toNat (-1 : Int))) (opAt x.1 g.2.2.1).2.2.2.2.1.toNat (-1 : Int))).2.1, (opAt x.1 g.2.2.1).2.2.2.2.2.2, (mval tyopen g.2.2.2.2.1 (List.getD (mval TB g.2.2.2.1 (g.1.getD (opAt x.1 g.2.2.1).2.1.toNat (-1 : Int))) (opAt x.1 g.2.2.1).2.2.2.2.1.toNat (-1 : Int))).2.2.2)) (List.getD (mval TB g.2.2.2.1 (g.1.getD (opAt x.1 g.2.2.1).2.1.toNat (-1 : Int))) (opAt x.1 g.2.2.1).2.2.2.2.1.toNat (-1 : Int))).2.2.1)) ∧
 FR s g.1 g.2.2.2.1 (mput tyopen g.2.2.2.2.1 (List.getD (mval TB g.2.2.2.1 (g.1.getD (opAt x.1 g.2.2.1).2.1.toNat (-1 : Int))) (opAt x.1 g.2.2.1).2.2.2.2.1.toNat (-1 : Int)) ((mval tyopen g.2.2.2.2.1 (List.getD (mval TB g.2.2.2.1 (g.1.getD (opAt x.1 g.2.2.1).2.1.toNat (-1 : Int))) (opAt x.1 g.2.2.1).2.2.2.2.1.toNat (-1 : Int))).1, (mval tyopen g.2.2.2.2.1 (List.getD (mval TB g.2.2.2.1 (g.1.getD (opAt x.1 g.2.2.1).2.1.toNat (-1 : Int))) (opAt x.1 g.2.2.1).2.2.2.2.1.toNat (-1 : Int))).2.1, (opAt x.1 g.2.2.1).2.2.2.2.2.2, (mval tyopen g.2.2.2.2.1 (List.getD (mval TB g.2.2.2.1 (g.1.getD (opAt x.1 g.2.2.1).2.1.toNat (-1 : Int))) (opAt x.1 g.2.2.1).2.2.2.2.1.toNat (-1 : Int))).2.2.2))) ∧
 ((↑x.1.length : Int) - (g.2.2.1 + (1 : Int))).toNat < ((↑x.1.length : Int) - g.2.2.1).toNat) ∧
 ((True ∧
 True) ∧
 (True ∧
 True) ∧
 True ∧
 x.1 = x.1 ∧
 RR (↑x.1.length : Int) ∧
 g.2.2.1 + (1 : Int) = g.2.2.1 + (1 : Int) ∧
 True) ∧
 ((g.1 = g.1 ∧
 True) ∧
 g.2.1 ++ (((0 : Int), (0 : Int)) :: ([] : List (Int × Int))).set (0 : Nat) ((0 : Int), (mval tyopen (mput tyopen g.2.2.2.2.1 (List.getD (mval TB g.2.2.2.1 (g.1.getD (opAt x.1 g.2.2.1).2.1.toNat (-1 : Int))) (opAt x.1 g.2.2.1).2.2.2.2.1.toNat (-1 : Int)) ((mval tyopen g.2.2.2.2.1 (List.getD (mval TB g.2.2.2.1 (g.1.getD (opAt x.1 g.2.2.1).2.1.toNat (-1 : Int))) (opAt x.1 g.2.2.1).2.2.2.2.1.toNat (-1 : Int))).1, (mval tyopen g.2.2.2.2.1 (List.getD (mval TB g.2.2.2.1 (g.1.getD (opAt x.1 g.2.2.1).2.1.toNat (-1 : Int))) (opAt x.1 g.2.2.1).2.2.2.2.1.toNat (-1 : Int))).2.1, (opAt x.1 g.2.2.1).2.2.2.2.2.2, (mval tyopen g.2.2.2.2.1 (List.getD (mval TB g.2.2.2.1 (g.1.getD (opAt x.1 g.2.2.1).2.1.toNat (-1 : Int))) (opAt x.1 g.2.2.1).2.2.2.2.1.toNat (-1 : Int))).2.2.2)) (List.getD (mval TB g.2.2.2.1 (g.1.getD (opAt x.1 g.2.2.1).2.1.toNat (-1 : Int))) (opAt x.1 g.2.2.1).2.2.2.2.1.toNat (-1 : Int))).2.2.1) = g.2.1 ++ (((0 : Int), (0 : Int)) :: ([] : List (Int × Int))).set (0 : Nat) ((0 : Int), (mval tyopen (mput tyopen g.2.2.2.2.1 (List.getD (mval TB g.2.2.2.1 (g.1.getD (opAt x.1 g.2.2.1).2.1.toNat (-1 : Int))) (opAt x.1 g.2.2.1).2.2.2.2.1.toNat (-1 : Int)) ((mval tyopen g.2.2.2.2.1 (List.getD (mval TB g.2.2.2.1 (g.1.getD (opAt x.1 g.2.2.1).2.1.toNat (-1 : Int))) (opAt x.1 g.2.2.1).2.2.2.2.1.toNat (-1 : Int))).1, (mval tyopen g.2.2.2.2.1 (List.getD (mval TB g.2.2.2.1 (g.1.getD (opAt x.1 g.2.2.1).2.1.toNat (-1 : Int))) (opAt x.1 g.2.2.1).2.2.2.2.1.toNat (-1 : Int))).2.1, (opAt x.1 g.2.2.1).2.2.2.2.2.2, (mval tyopen g.2.2.2.2.1 (List.getD (mval TB g.2.2.2.1 (g.1.getD (opAt x.1 g.2.2.1).2.1.toNat (-1 : Int))) (opAt x.1 g.2.2.1).2.2.2.2.1.toNat (-1 : Int))).2.2.2)) (List.getD (mval TB g.2.2.2.1 (g.1.getD (opAt x.1 g.2.2.1).2.1.toNat (-1 : Int))) (opAt x.1 g.2.2.1).2.2.2.2.1.toNat (-1 : Int))).2.2.1) ∧
 RR g.2.2.2.1 ∧
 mput tyopen g.2.2.2.2.1 (List.getD (mval TB g.2.2.2.1 (g.1.getD (opAt x.1 g.2.2.1).2.1.toNat (-1 : Int))) (opAt x.1 g.2.2.1).2.2.2.2.1.toNat (-1 : Int)) ((mval tyopen g.2.2.2.2.1 (List.getD (mval TB g.2.2.2.1 (g.1.getD (opAt x.1 g.2.2.1).2.1.toNat (-1 : Int))) (opAt x.1 g.2.2.1).2.2.2.2.1.toNat (-1 : Int))).1, (mval tyopen g.2.2.2.2.1 (List.getD (mval TB g.2.2.2.1 (g.1.getD (opAt x.1 g.2.2.1).2.1.toNat (-1 : Int))) (opAt x.1 g.2.2.1).2.2.2.2.1.toNat (-1 : Int))).2.1, (opAt x.1 g.2.2.1).2.2.2.2.2.2, (mval tyopen g.2.2.2.2.1 (List.getD (mval TB g.2.2.2.1 (g.1.getD (opAt x.1 g.2.2.1).2.1.toNat (-1 : Int))) (opAt x.1 g.2.2.1).2.2.2.2.1.toNat (-1 : Int))).2.2.2) = mput tyopen g.2.2.2.2.1 (List.getD (mval TB g.2.2.2.1 (g.1.getD (opAt x.1 g.2.2.1).2.1.toNat (-1 : Int))) (opAt x.1 g.2.2.1).2.2.2.2.1.toNat (-1 : Int)) ((mval tyopen g.2.2.2.2.1 (List.getD (mval TB g.2.2.2.1 (g.1.getD (opAt x.1 g.2.2.1).2.1.toNat (-1 : Int))) (opAt x.1 g.2.2.1).2.2.2.2.1.toNat (-1 : Int))).1, (mval tyopen g.2.2.2.2.1 (List.getD (mval TB g.2.2.2.1 (g.1.getD (opAt x.1 g.2.2.1).2.1.toNat (-1 : Int))) (opAt x.1 g.2.2.1).2.2.2.2.1.toNat (-1 : Int))).2.1, (opAt x.1 g.2.2.1).2.2.2.2.2.2, (mval tyopen g.2.2.2.2.1 (List.getD (mval TB g.2.2.2.1 (g.1.getD (opAt x.1 g.2.2.1).2.1.toNat (-1 : Int))) (opAt x.1 g.2.2.1).2.2.2.2.1.toNat (-1 : Int))).2.2.2) ∧
 (Z64 = Z64 ∧
 True) ∧
 True) ∧
 True)) ∧
 (((opAt x.1 g.2.2.1).1 == (6 : Int)) = false →
 (decide ((opAt x.1 g.2.2.1).2.2.2.2.2.2 < (1 : Int)) = true →
 (g.2.1.length + ((((0 : Int), (0 : Int)) :: ([] : List (Int × Int))).set (0 : Nat) ((2 : Int), (0 : Int))).length ≤ (9223372036854775807 : Nat) ∧
 (g.2.1.length + ((((0 : Int), (0 : Int)) :: ([] : List (Int × Int))).set (0 : Nat) ((2 : Int), (0 : Int))).length + (g.2.1.length + ((((0 : Int), (0 : Int)) :: ([] : List (Int × Int))).set (0 : Nat) ((2 : Int), (0 : Int))).length) / (4 : Nat) + (192 : Nat)) * (16 : Nat) ≤ (281474976710656 : Nat)) ∧
 ((-9223372036854775808 : Int) ≤ g.2.2.1 + (1 : Int) ∧
 g.2.2.1 + (1 : Int) ≤ (9223372036854775807 : Int)) ∧
 (((0 : Int) ≤ g.2.2.1 + (1 : Int) ∧
 g.2.2.1 + (1 : Int) ≤ (↑x.1.length : Int) ∧
 ∃ s, frun (List.take (g.2.2.1 + (1 : Int)).toNat x.1) = (s, g.2.1 ++ (((0 : Int), (0 : Int)) :: ([] : List (Int × Int))).set (0 : Nat) ((2 : Int), (0 : Int))) ∧
 FR s g.1 g.2.2.2.1 g.2.2.2.2.1) ∧
 ((↑x.1.length : Int) - (g.2.2.1 + (1 : Int))).toNat < ((↑x.1.length : Int) - g.2.2.1).toNat) ∧
 ((True ∧
 True) ∧
 (True ∧
 True) ∧
 True ∧
 x.1 = x.1 ∧
 RR (↑x.1.length : Int) ∧
 g.2.2.1 + (1 : Int) = g.2.2.1 + (1 : Int) ∧
 True) ∧
 ((g.1 = g.1 ∧
 True) ∧
 g.2.1 ++ (((0 : Int), (0 : Int)) :: ([] : List (Int × Int))).set (0 : Nat) ((2 : Int), (0 : Int)) = g.2.1 ++ (((0 : Int), (0 : Int)) :: ([] : List (Int × Int))).set (0 : Nat) ((2 : Int), (0 : Int)) ∧
 RR g.2.2.2.1 ∧
 RR g.2.2.2.2.1 ∧
 (Z64 = Z64 ∧
 True) ∧
 True) ∧
 True) ∧
 (decide ((opAt x.1 g.2.2.1).2.2.2.2.2.2 < (1 : Int)) = false →
 (0 : Int) ≤ List.getD (mval TB g.2.2.2.1 (g.1.getD (opAt x.1 g.2.2.1).2.1.toNat (-1 : Int))) (opAt x.1 g.2.2.1).2.2.2.2.1.toNat (-1 : Int) ∧
 mhas tyopen g.2.2.2.2.1 (List.getD (mval TB g.2.2.2.1 (g.1.getD (opAt x.1 g.2.2.1).2.1.toNat (-1 : Int))) (opAt x.1 g.2.2.1).2.2.2.2.1.toNat (-1 : Int)) = true ∧
 (0 : Int) ≤ List.getD (mval TB g.2.2.2.1 (g.1.getD (opAt x.1 g.2.2.1).2.1.toNat (-1 : Int))) (opAt x.1 g.2.2.1).2.2.2.2.1.toNat (-1 : Int) ∧
 mhas tyopen g.2.2.2.2.1 (List.getD (mval TB g.2.2.2.1 (g.1.getD (opAt x.1 g.2.2.1).2.1.toNat (-1 : Int))) (opAt x.1 g.2.2.1).2.2.2.2.1.toNat (-1 : Int)) = true ∧
 ((-9223372036854775808 : Int) ≤ (mval tyopen g.2.2.2.2.1 (List.getD (mval TB g.2.2.2.1 (g.1.getD (opAt x.1 g.2.2.1).2.1.toNat (-1 : Int))) (opAt x.1 g.2.2.1).2.2.2.2.1.toNat (-1 : Int))).2.1 - (mval tyopen g.2.2.2.2.1 (List.getD (mval TB g.2.2.2.1 (g.1.getD (opAt x.1 g.2.2.1).2.1.toNat (-1 : Int))) (opAt x.1 g.2.2.1).2.2.2.2.1.toNat (-1 : Int))).2.2.1 ∧
 (mval tyopen g.2.2.2.2.1 (List.getD (mval TB g.2.2.2.1 (g.1.getD (opAt x.1 g.2.2.1).2.1.toNat (-1 : Int))) (opAt x.1 g.2.2.1).2.2.2.2.1.toNat (-1 : Int))).2.1 - (mval tyopen g.2.2.2.2.1 (List.getD (mval TB g.2.2.2.1 (g.1.getD (opAt x.1 g.2.2.1).2.1.toNat (-1 : Int))) (opAt x.1 g.2.2.1).2.2.2.2.1.toNat (-1 : Int))).2.2.1 ≤ (9223372036854775807 : Int)) ∧
 (0 : Int) ≤ List.getD (mval TB g.2.2.2.1 (g.1.getD (opAt x.1 g.2.2.1).2.1.toNat (-1 : Int))) (opAt x.1 g.2.2.1).2.2.2.2.1.toNat (-1 : Int) ∧
 mhas tyopen g.2.2.2.2.1 (List.getD (mval TB g.2.2.2.1 (g.1.getD (opAt x.1 g.2.2.1).2.1.toNat (-1 : Int))) (opAt x.1 g.2.2.1).2.2.2.2.1.toNat (-1 : Int)) = true ∧
 ((-9223372036854775808 : Int) ≤ (mval tyopen g.2.2.2.2.1 (List.getD (mval TB g.2.2.2.1 (g.1.getD (opAt x.1 g.2.2.1).2.1.toNat (-1 : Int))) (opAt x.1 g.2.2.1).2.2.2.2.1.toNat (-1 : Int))).2.2.1 + min (opAt x.1 g.2.2.1).2.2.2.2.2.2 (max ((mval tyopen g.2.2.2.2.1 (List.getD (mval TB g.2.2.2.1 (g.1.getD (opAt x.1 g.2.2.1).2.1.toNat (-1 : Int))) (opAt x.1 g.2.2.1).2.2.2.2.1.toNat (-1 : Int))).2.1 - (mval tyopen g.2.2.2.2.1 (List.getD (mval TB g.2.2.2.1 (g.1.getD (opAt x.1 g.2.2.1).2.1.toNat (-1 : Int))) (opAt x.1 g.2.2.1).2.2.2.2.1.toNat (-1 : Int))).2.2.1) (0 : Int)) ∧
 (mval tyopen g.2.2.2.2.1 (List.getD (mval TB g.2.2.2.1 (g.1.getD (opAt x.1 g.2.2.1).2.1.toNat (-1 : Int))) (opAt x.1 g.2.2.1).2.2.2.2.1.toNat (-1 : Int))).2.2.1 + min (opAt x.1 g.2.2.1).2.2.2.2.2.2 (max ((mval tyopen g.2.2.2.2.1 (List.getD (mval TB g.2.2.2.1 (g.1.getD (opAt x.1 g.2.2.1).2.1.toNat (-1 : Int))) (opAt x.1 g.2.2.1).2.2.2.2.1.toNat (-1 : Int))).2.1 - (mval tyopen g.2.2.2.2.1 (List.getD (mval TB g.2.2.2.1 (g.1.getD (opAt x.1 g.2.2.1).2.1.toNat (-1 : Int))) (opAt x.1 g.2.2.1).2.2.2.2.1.toNat (-1 : Int))).2.2.1) (0 : Int)) ≤ (9223372036854775807 : Int)) ∧
 (0 : Int) ≤ List.getD (mval TB g.2.2.2.1 (g.1.getD (opAt x.1 g.2.2.1).2.1.toNat (-1 : Int))) (opAt x.1 g.2.2.1).2.2.2.2.1.toNat (-1 : Int) ∧
 mhas tyopen g.2.2.2.2.1 (List.getD (mval TB g.2.2.2.1 (g.1.getD (opAt x.1 g.2.2.1).2.1.toNat (-1 : Int))) (opAt x.1 g.2.2.1).2.2.2.2.1.toNat (-1 : Int)) = true ∧
 (g.2.1.length + ((((0 : Int), (0 : Int)) :: ([] : List (Int × Int))).set (0 : Nat) ((0 : Int), min (opAt x.1 g.2.2.1).2.2.2.2.2.2 (max ((mval tyopen g.2.2.2.2.1 (List.getD (mval TB g.2.2.2.1 (g.1.getD (opAt x.1 g.2.2.1).2.1.toNat (-1 : Int))) (opAt x.1 g.2.2.1).2.2.2.2.1.toNat (-1 : Int))).2.1 - (mval tyopen g.2.2.2.2.1 (List.getD (mval TB g.2.2.2.1 (g.1.getD (opAt x.1 g.2.2.1).2.1.toNat (-1 : Int))) (opAt x.1 g.2.2.1).2.2.2.2.1.toNat (-1 : Int))).2.2.1) (0 : Int)))).length ≤ (9223372036854775807 : Nat) ∧
 (g.2.1.length + ((((0 : Int), (0 : Int)) :: ([] : List (Int × Int))).set (0 : Nat) ((0 : Int), min (opAt x.1 g.2.2.1).2.2.2.2.2.2 (max ((mval tyopen g.2.2.2.2.1 (List.getD (mval TB g.2.2.2.1 (g.1.getD (opAt x.1 g.2.2.1).2.1.toNat (-1 : Int))) (opAt x.1 g.2.2.1).2.2.2.2.1.toNat (-1 : Int))).2.1 - (mval tyopen g.2.2.2.2.1 (List.getD (mval TB g.2.2.2.1 (g.1.getD (opAt x.1 g.2.2.1).2.1.toNat (-1 : Int))) (opAt x.1 g.2.2.1).2.2.2.2.1.toNat (-1 : Int))).2.2.1) (0 : Int)))).length + (g.2.1.length + ((((0 : Int), (0 : Int)) :: ([] : List (Int × Int))).set (0 : Nat) ((0 : Int), min (opAt x.1 g.2.2.1).2.2.2.2.2.2 (max ((mval tyopen g.2.2.2.2.1 (List.getD (mval TB g.2.2.2.1 (g.1.getD (opAt x.1 g.2.2.1).2.1.toNat (-1 : Int))) (opAt x.1 g.2.2.1).2.2.2.2.1.toNat (-1 : Int))).2.1 - (mval tyopen g.2.2.2.2.1 (List.getD (mval TB g.2.2.2.1 (g.1.getD (opAt x.1 g.2.2.1).2.1.toNat (-1 : Int))) (opAt x.1 g.2.2.1).2.2.2.2.1.toNat (-1 : Int))).2.2.1) (0 : Int)))).length) / (4 : Nat) + (192 : Nat)) * (16 : Nat) ≤ (281474976710656 : Nat)) ∧
 ((-9223372036854775808 : Int) ≤ g.2.2.1 + (1 : Int) ∧
 g.2.2.1 + (1 : Int) ≤ (9223372036854775807 : Int)) ∧
 (((0 : Int) ≤ g.2.2.1 + (1 : Int) ∧
 g.2.2.1 + (1 : Int) ≤ (↑x.1.length : Int) ∧
 ∃ s, frun (List.take (g.2.2.1 + (1 : Int)).toNat x.1) = (s, g.2.1 ++ (((0 : Int), (0 : Int)) :: ([] : List (Int × Int))).set (0 : Nat) ((0 : Int), min (opAt x.1 g.2.2.1).2.2.2.2.2.2 (max ((mval tyopen g.2.2.2.2.1 (List.getD (mval TB g.2.2.2.1 (g.1.getD (opAt x.1 g.2.2.1).2.1.toNat (-1 : Int))) (opAt x.1 g.2.2.1).2.2.2.2.1.toNat (-1 : Int))).2.1 - (mval tyopen g.2.2.2.2.1 (List.getD (mval TB g.2.2.2.1 (g.1.getD (opAt x.1 g.2.2.1).2.1.toNat (-1 : Int))) (opAt x.1 g.2.2.1).2.2.2.2.1.toNat (-1 : Int))).2.2.1) (0 : Int)))) ∧
 FR s g.1 g.2.2.2.1 (mput tyopen g.2.2.2.2.1 (List.getD (mval TB g.2.2.2.1 (g.1.getD (opAt x.1 g.2.2.1).2.1.toNat (-1 : Int))) (opAt x.1 g.2.2.1).2.2.2.2.1.toNat (-1 : Int)) ((mval tyopen g.2.2.2.2.1 (List.getD (mval TB g.2.2.2.1 (g.1.getD (opAt x.1 g.2.2.1).2.1.toNat (-1 : Int))) (opAt x.1 g.2.2.1).2.2.2.2.1.toNat (-1 : Int))).1, (mval tyopen g.2.2.2.2.1 (List.getD (mval TB g.2.2.2.1 (g.1.getD (opAt x.1 g.2.2.1).2.1.toNat (-1 : Int))) (opAt x.1 g.2.2.1).2.2.2.2.1.toNat (-1 : Int))).2.1, (mval tyopen g.2.2.2.2.1 (List.getD (mval TB g.2.2.2.1 (g.1.getD (opAt x.1 g.2.2.1).2.1.toNat (-1 : Int))) (opAt x.1 g.2.2.1).2.2.2.2.1.toNat (-1 : Int))).2.2.1 + min (opAt x.1 g.2.2.1).2.2.2.2.2.2 (max ((mval tyopen g.2.2.2.2.1 (List.getD (mval TB g.2.2.2.1 (g.1.getD (opAt x.1 g.2.2.1).2.1.toNat (-1 : Int))) (opAt x.1 g.2.2.1).2.2.2.2.1.toNat (-1 : Int))).2.1 - (mval tyopen g.2.2.2.2.1 (List.getD (mval TB g.2.2.2.1 (g.1.getD (opAt x.1 g.2.2.1).2.1.toNat (-1 : Int))) (opAt x.1 g.2.2.1).2.2.2.2.1.toNat (-1 : Int))).2.2.1) (0 : Int)), (mval tyopen g.2.2.2.2.1 (List.getD (mval TB g.2.2.2.1 (g.1.getD (opAt x.1 g.2.2.1).2.1.toNat (-1 : Int))) (opAt x.1 g.2.2.1).2.2.2.2.1.toNat (-1 : Int))).2.2.2))) ∧
 ((↑x.1.length : Int) - (g.2.2.1 + (1 : Int))).toNat < ((↑x.1.length : Int) - g.2.2.1).toNat) ∧
 ((True ∧
 True) ∧
 (True ∧
 True) ∧
 True ∧
 x.1 = x.1 ∧
 RR (↑x.1.length : Int) ∧
 g.2.2.1 + (1 : Int) = g.2.2.1 + (1 : Int) ∧
 True) ∧
 ((g.1 = g.1 ∧
 True) ∧
 g.2.1 ++ (((0 : Int), (0 : Int)) :: ([] : List (Int × Int))).set (0 : Nat) ((0 : Int), min (opAt x.1 g.2.2.1).2.2.2.2.2.2 (max ((mval tyopen g.2.2.2.2.1 (List.getD (mval TB g.2.2.2.1 (g.1.getD (opAt x.1 g.2.2.1).2.1.toNat (-1 : Int))) (opAt x.1 g.2.2.1).2.2.2.2.1.toNat (-1 : Int))).2.1 - (mval tyopen g.2.2.2.2.1 (List.getD (mval TB g.2.2.2.1 (g.1.getD (opAt x.1 g.2.2.1).2.1.toNat (-1 : Int))) (opAt x.1 g.2.2.1).2.2.2.2.1.toNat (-1 : Int))).2.2.1) (0 : Int))) = g.2.1 ++ (((0 : Int), (0 : Int)) :: ([] : List (Int × Int))).set (0 : Nat) ((0 : Int), min (opAt x.1 g.2.2.1).2.2.2.2.2.2 (max ((mval tyopen g.2.2.2.2.1 (List.getD (mval TB g.2.2.2.1 (g.1.getD (opAt x.1 g.2.2.1).2.1.toNat (-1 : Int))) (opAt x.1 g.2.2.1).2.2.2.2.1.toNat (-1 : Int))).2.1 - (mval tyopen g.2.2.2.2.1 (List.getD (mval TB g.2.2.2.1 (g.1.getD (opAt x.1 g.2.2.1).2.1.toNat (-1 : Int))) (opAt x.1 g.2.2.1).2.2.2.2.1.toNat (-1 : Int))).2.2.1) (0 : Int))) ∧
 RR g.2.2.2.1 ∧
 mput tyopen g.2.2.2.2.1 (List.getD (mval TB g.2.2.2.1 (g.1.getD (opAt x.1 g.2.2.1).2.1.toNat (-1 : Int))) (opAt x.1 g.2.2.1).2.2.2.2.1.toNat (-1 : Int)) ((mval tyopen g.2.2.2.2.1 (List.getD (mval TB g.2.2.2.1 (g.1.getD (opAt x.1 g.2.2.1).2.1.toNat (-1 : Int))) (opAt x.1 g.2.2.1).2.2.2.2.1.toNat (-1 : Int))).1, (mval tyopen g.2.2.2.2.1 (List.getD (mval TB g.2.2.2.1 (g.1.getD (opAt x.1 g.2.2.1).2.1.toNat (-1 : Int))) (opAt x.1 g.2.2.1).2.2.2.2.1.toNat (-1 : Int))).2.1, (mval tyopen g.2.2.2.2.1 (List.getD (mval TB g.2.2.2.1 (g.1.getD (opAt x.1 g.2.2.1).2.1.toNat (-1 : Int))) (opAt x.1 g.2.2.1).2.2.2.2.1.toNat (-1 : Int))).2.2.1 + min (opAt x.1 g.2.2.1).2.2.2.2.2.2 (max ((mval tyopen g.2.2.2.2.1 (List.getD (mval TB g.2.2.2.1 (g.1.getD (opAt x.1 g.2.2.1).2.1.toNat (-1 : Int))) (opAt x.1 g.2.2.1).2.2.2.2.1.toNat (-1 : Int))).2.1 - (mval tyopen g.2.2.2.2.1 (List.getD (mval TB g.2.2.2.1 (g.1.getD (opAt x.1 g.2.2.1).2.1.toNat (-1 : Int))) (opAt x.1 g.2.2.1).2.2.2.2.1.toNat (-1 : Int))).2.2.1) (0 : Int)), (mval tyopen g.2.2.2.2.1 (List.getD (mval TB g.2.2.2.1 (g.1.getD (opAt x.1 g.2.2.1).2.1.toNat (-1 : Int))) (opAt x.1 g.2.2.1).2.2.2.2.1.toNat (-1 : Int))).2.2.2) = mput tyopen g.2.2.2.2.1 (List.getD (mval TB g.2.2.2.1 (g.1.getD (opAt x.1 g.2.2.1).2.1.toNat (-1 : Int))) (opAt x.1 g.2.2.1).2.2.2.2.1.toNat (-1 : Int)) ((mval tyopen g.2.2.2.2.1 (List.getD (mval TB g.2.2.2.1 (g.1.getD (opAt x.1 g.2.2.1).2.1.toNat (-1 : Int))) (opAt x.1 g.2.2.1).2.2.2.2.1.toNat (-1 : Int))).1, (mval tyopen g.2.2.2.2.1 (List.getD (mval TB g.2.2.2.1 (g.1.getD (opAt x.1 g.2.2.1).2.1.toNat (-1 : Int))) (opAt x.1 g.2.2.1).2.2.2.2.1.toNat (-1 : Int))).2.1, (mval tyopen g.2.2.2.2.1 (List.getD (mval TB g.2.2.2.1 (g.1.getD (opAt x.1 g.2.2.1).2.1.toNat (-1 : Int))) (opAt x.1 g.2.2.1).2.2.2.2.1.toNat (-1 : Int))).2.2.1 + min (opAt x.1 g.2.2.1).2.2.2.2.2.2 (max ((mval tyopen g.2.2.2.2.1 (List.getD (mval TB g.2.2.2.1 (g.1.getD (opAt x.1 g.2.2.1).2.1.toNat (-1 : Int))) (opAt x.1 g.2.2.1).2.2.2.2.1.toNat (-1 : Int))).2.1 - (mval tyopen g.2.2.2.2.1 (List.getD (mval TB g.2.2.2.1 (g.1.getD (opAt x.1 g.2.2.1).2.1.toNat (-1 : Int))) (opAt x.1 g.2.2.1).2.2.2.2.1.toNat (-1 : Int))).2.2.1) (0 : Int)), (mval tyopen g.2.2.2.2.1 (List.getD (mval TB g.2.2.2.1 (g.1.getD (opAt x.1 g.2.2.1).2.1.toNat (-1 : Int))) (opAt x.1 g.2.2.1).2.2.2.2.1.toNat (-1 : Int))).2.2.2) ∧
 (Z64 = Z64 ∧
 True) ∧
 True) ∧
 True))))))) ∧
 (decide ((16 : Int) ≤ (opAt x.1 g.2.2.1).2.2.2.2.1) = !false →
 (g.2.1.length + ((((0 : Int), (0 : Int)) :: ([] : List (Int × Int))).set (0 : Nat) ((3 : Int), (0 : Int))).length ≤ (9223372036854775807 : Nat) ∧
 (g.2.1.length + ((((0 : Int), (0 : Int)) :: ([] : List (Int × Int))).set (0 : Nat) ((3 : Int), (0 : Int))).length + (g.2.1.length + ((((0 : Int), (0 : Int)) :: ([] : List (Int × Int))).set (0 : Nat) ((3 : Int), (0 : Int))).length) / (4 : Nat) + (192 : Nat)) * (16 : Nat) ≤ (281474976710656 : Nat)) ∧
 ((-9223372036854775808 : Int) ≤ g.2.2.1 + (1 : Int) ∧
 g.2.2.1 + (1 : Int) ≤ (9223372036854775807 : Int)) ∧
 (((0 : Int) ≤ g.2.2.1 + (1 : Int) ∧
 g.2.2.1 + (1 : Int) ≤ (↑x.1.length : Int) ∧
 ∃ s, frun (List.take (g.2.2.1 + (1 : Int)).toNat x.1) = (s, g.2.1 ++ (((0 : Int), (0 : Int)) :: ([] : List (Int × Int))).set (0 : Nat) ((3 : Int), (0 : Int))) ∧
 FR s g.1 g.2.2.2.1 g.2.2.2.2.1) ∧
 ((↑x.1.length : Int) - (g.2.2.1 + (1 : Int))).toNat < ((↑x.1.length : Int) - g.2.2.1).toNat) ∧
 ((True ∧
 True) ∧
 (True ∧
 True) ∧
 True ∧
 x.1 = x.1 ∧
 RR (↑x.1.length : Int) ∧
 g.2.2.1 + (1 : Int) = g.2.2.1 + (1 : Int) ∧
 True) ∧
 ((g.1 = g.1 ∧
 True) ∧
 g.2.1 ++ (((0 : Int), (0 : Int)) :: ([] : List (Int × Int))).set (0 : Nat) ((3 : Int), (0 : Int)) = g.2.1 ++ (((0 : Int), (0 : Int)) :: ([] : List (Int × Int))).set (0 : Nat) ((3 : Int), (0 : Int)) ∧
 RR g.2.2.2.1 ∧
 RR g.2.2.2.2.1 ∧
 (Z64 = Z64 ∧
 True) ∧
 True) ∧
 True)) ∧
 (decide ((opAt x.1 g.2.2.1).2.2.2.2.1 < (0 : Int)) = !false →
 (g.2.1.length + ((((0 : Int), (0 : Int)) :: ([] : List (Int × Int))).set (0 : Nat) ((3 : Int), (0 : Int))).length ≤ (9223372036854775807 : Nat) ∧
 (g.2.1.length + ((((0 : Int), (0 : Int)) :: ([] : List (Int × Int))).set (0 : Nat) ((3 : Int), (0 : Int))).length + (g.2.1.length + ((((0 : Int), (0 : Int)) :: ([] : List (Int × Int))).set (0 : Nat) ((3 : Int), (0 : Int))).length) / (4 : Nat) + (192 : Nat)) * (16 : Nat) ≤ (281474976710656 : Nat)) ∧
 ((-9223372036854775808 : Int) ≤ g.2.2.1 + (1 : Int) ∧
 g.2.2.1 + (1 : Int) ≤ (9223372036854775807 : Int)) ∧
 (((0 : Int) ≤ g.2.2.1 + (1 : Int) ∧
 g.2.2.1 + (1 : Int) ≤ (↑x.1.length : Int) ∧
 ∃ s, frun (List.take (g.2.2.1 + (1 : Int)).toNat x.1) = (s, g.2.1 ++ (((0 : Int), (0 : Int)) :: ([] : List (Int × Int))).set (0 : Nat) ((3 : Int), (0 : Int))) ∧
 FR s g.1 g.2.2.2.1 g.2.2.2.2.1) ∧
 ((↑x.1.length : Int) - (g.2.2.1 + (1 : Int))).toNat < ((↑x.1.length : Int) - g.2.2.1).toNat) ∧
 ((True ∧
 True) ∧
 (True ∧
 True) ∧
 True ∧
 x.1 = x.1 ∧
 RR (↑x.1.length : Int) ∧
 g.2.2.1 + (1 : Int) = g.2.2.1 + (1 : Int) ∧
 True) ∧
 ((g.1 = g.1 ∧
 True) ∧
 g.2.1 ++ (((0 : Int), (0 : Int)) :: ([] : List (Int × Int))).set (0 : Nat) ((3 : Int), (0 : Int)) = g.2.1 ++ (((0 : Int), (0 : Int)) :: ([] : List (Int × Int))).set (0 : Nat) ((3 : Int), (0 : Int)) ∧
 RR g.2.2.2.1 ∧
 RR g.2.2.2.2.1 ∧
 (Z64 = Z64 ∧
 True) ∧
 True) ∧
 True))))) ∧
 (decide ((4 : Int) ≤ (opAt x.1 g.2.2.1).2.1) = !false →
 (g.2.1.length + ((((0 : Int), (0 : Int)) :: ([] : List (Int × Int))).set (0 : Nat) ((3 : Int), (0 : Int))).length ≤ (9223372036854775807 : Nat) ∧
 (g.2.1.length + ((((0 : Int), (0 : Int)) :: ([] : List (Int × Int))).set (0 : Nat) ((3 : Int), (0 : Int))).length + (g.2.1.length + ((((0 : Int), (0 : Int)) :: ([] : List (Int × Int))).set (0 : Nat) ((3 : Int), (0 : Int))).length) / (4 : Nat) + (192 : Nat)) * (16 : Nat) ≤ (281474976710656 : Nat)) ∧
 ((-9223372036854775808 : Int) ≤ g.2.2.1 + (1 : Int) ∧
 g.2.2.1 + (1 : Int) ≤ (9223372036854775807 : Int)) ∧
 (((0 : Int) ≤ g.2.2.1 + (1 : Int) ∧
 g.2.2.1 + (1 : Int) ≤ (↑x.1.length : Int) ∧
 ∃ s, frun (List.take (g.2.2.1 + (1 : Int)).toNat x.1) = (s, g.2.1 ++ (((0 : Int), (0 : Int)) :: ([] : List (Int × Int))).set (0 : Nat) ((3 : Int), (0 : Int))) ∧
 FR s g.1 g.2.2.2.1 g.2.2.2.2.1) ∧
 ((↑x.1.length : Int) - (g.2.2.1 + (1 : Int))).toNat < ((↑x.1.length : Int) - g.2.2.1).toNat) ∧
 ((True ∧
 True) ∧
 (True ∧
 True) ∧
 True ∧
 x.1 = x.1 ∧
 RR (↑x.1.length : Int) ∧
 g.2.2.1 + (1 : Int) = g.2.2.1 + (1 : Int) ∧
 True) ∧
 ((g.1 = g.1 ∧
 True) ∧
 g.2.1 ++ (((0 : Int), (0 : Int)) :: ([] : List (Int × Int))).set (0 : Nat) ((3 : Int), (0 : Int)) = g.2.1 ++ (((0 : Int), (0 : Int)) :: ([] : List (Int × Int))).set (0 : Nat) ((3 : Int), (0 : Int)) ∧
 RR g.2.2.2.1 ∧
 RR g.2.2.2.2.1 ∧
 (Z64 = Z64 ∧
 True) ∧
 True) ∧
 True)) ∧
 (decide ((opAt x.1 g.2.2.1).2.1 < (0 : Int)) = !false →
 (g.2.1.length + ((((0 : Int), (0 : Int)) :: ([] : List (Int × Int))).set (0 : Nat) ((3 : Int), (0 : Int))).length ≤ (9223372036854775807 : Nat) ∧
 (g.2.1.length + ((((0 : Int), (0 : Int)) :: ([] : List (Int × Int))).set (0 : Nat) ((3 : Int), (0 : Int))).length + (g.2.1.length + ((((0 : Int), (0 : Int)) :: ([] : List (Int × Int))).set (0 : Nat) ((3 : Int), (0 : Int))).length) / (4 : Nat) + (192 : Nat)) * (16 : Nat) ≤ (281474976710656 : Nat)) ∧
 ((-9223372036854775808 : Int) ≤ g.2.2.1 + (1 : Int) ∧
 g.2.2.1 + (1 : Int) ≤ (9223372036854775807 : Int)) ∧
 (((0 : Int) ≤ g.2.2.1 + (1 : Int) ∧
 g.2.2.1 + (1 : Int) ≤ (↑x.1.length : Int) ∧
 ∃ s, frun (List.take (g.2.2.1 + (1 : Int)).toNat x.1) = (s, g.2.1 ++ (((0 : Int), (0 : Int)) :: ([] : List (Int × Int))).set (0 : Nat) ((3 : Int), (0 : Int))) ∧
 FR s g.1 g.2.2.2.1 g.2.2.2.2.1) ∧
 ((↑x.1.length : Int) - (g.2.2.1 + (1 : Int))).toNat < ((↑x.1.length : Int) - g.2.2.1).toNat) ∧
 ((True ∧
 True) ∧
 (True ∧
 True) ∧
 True ∧
 x.1 = x.1 ∧
 RR (↑x.1.length : Int) ∧
 g.2.2.1 + (1 : Int) = g.2.2.1 + (1 : Int) ∧
 True) ∧
 ((g.1 = g.1 ∧
 True) ∧
 g.2.1 ++ (((0 : Int), (0 : Int)) :: ([] : List (Int × Int))).set (0 : Nat) ((3 : Int), (0 : Int)) = g.2.1 ++ (((0 : Int), (0 : Int)) :: ([] : List (Int × Int))).set (0 : Nat) ((3 : Int), (0 : Int)) ∧
 RR g.2.2.2.1 ∧
 RR g.2.2.2.2.1 ∧
 (Z64 = Z64 ∧
 True) ∧
 True) ∧
 True))) ∧
 (decide (g.2.2.1 < (↑x.1.length : Int)) = false →
 ((((0 : Int) ≤ (0 : Int) ∧
 (0 : Int) ≤ (4 : Int) ∧
 (RR g.2.2.2.1 ∧
 g.2.2.2.2.1 = g.2.2.2.2.1) ∧
 upto Z64 (holdI g.1 g.2.2.2.1 g.2.2.2.2.1) (0 : Int) (0 : Int)) ∧
 True) ∧
 ((True ∧
 True) ∧
 True ∧
 (True ∧
 True) ∧
 (g.1 = g.1 ∧
 True) ∧
 RR (0 : Int) ∧
 True) ∧
 ((Z64 = Z64 ∧
 True) ∧
 RR g.2.2.2.1 ∧
 RR g.2.2.2.2.1 ∧
 (Z64 = Z64 ∧
 True) ∧
 g.2.1 = g.2.1 ∧
 True) ∧
 True) ∧
 ∀ (g_1 : List (List Int) × Int × List (Int × List Int) × List (Int × Int × Int × Int × Int) × Unit), (0 : Int) ≤ g_1.2.1 ∧
 g_1.2.1 ≤ (4 : Int) ∧
 (g_1.2.2.1 = g.2.2.2.1 ∧
 g_1.2.2.2.1 = g.2.2.2.2.1) ∧
 upto g_1.1 (holdI g.1 g_1.2.2.1 g_1.2.2.2.1) g_1.2.1 (0 : Int) →
 (g_1.1.length = (4 : Nat) ∧
 ∀ (x : List Int), x ∈ g_1.1 →
 x.length = (16 : Nat) ∧
 ∀ (x_1 : Int), x_1 ∈ x →
 (-9223372036854775808 : Int) ≤ x_1 ∧
 x_1 ≤ (9223372036854775807 : Int)) ∧
 ((-9223372036854775808 : Int) ≤ g_1.2.1 ∧
 g_1.2.1 ≤ (9223372036854775807 : Int)) ∧
 ((List.map (fun x ↦ x.1) g_1.2.2.1).Nodup ∧
 ∀ (e : Int × List Int), e ∈ g_1.2.2.1 →
 (0 : Int) ≤ e.1 ∧
 e.2.length = (16 : Nat) ∧
 ∀ (x : Int), x ∈ e.2 →
 (0 : Int) ≤ x + (1 : Int) ∧
 True) ∧
 ((List.map (fun x ↦ x.1) g_1.2.2.2.1).Nodup ∧
 ∀ (e : Int × Int × Int × Int × Int), e ∈ g_1.2.2.2.1 →
 (0 : Int) ≤ e.1 ∧
 ((-9223372036854775808 : Int) ≤ e.2.1 ∧
 e.2.1 ≤ (9223372036854775807 : Int)) ∧
 ((-9223372036854775808 : Int) ≤ e.2.2.1 ∧
 e.2.2.1 ≤ (9223372036854775807 : Int)) ∧
 ((-9223372036854775808 : Int) ≤ e.2.2.2.1 ∧
 e.2.2.2.1 ≤ (9223372036854775807 : Int)) ∧
 (-9223372036854775808 : Int) ≤ e.2.2.2.2 ∧
 e.2.2.2.2 ≤ (9223372036854775807 : Int)) ∧
 True →
 (decide (g_1.2.1 < (4 : Int)) = true →
 ((0 : Int) ≤ g_1.2.1 ∧
 g_1.2.1 < (↑(4 : Nat) : Int)) ∧
 ((((0 : Int) ≤ (0 : Int) ∧
 (0 : Int) ≤ (16 : Int) ∧
 (RR g_1.2.2.1 ∧
 g_1.2.2.2.1 = g_1.2.2.2.1) ∧
 upto g_1.1 (holdI g.1 g_1.2.2.1 g_1.2.2.2.1) g_1.2.1 (0 : Int)) ∧
 True) ∧
 ((True ∧
 True) ∧
 True ∧
 (True ∧
 True) ∧
 g_1.2.1 = g_1.2.1 ∧
 RR (g.1.getD g_1.2.1.toNat (-1 : Int)) ∧
 (g.1 = g.1 ∧
 True) ∧
 g_1.2.1 = g_1.2.1 ∧
 RR (0 : Int) ∧
 True) ∧
 ((g_1.1 = g_1.1 ∧
 True) ∧
 RR g_1.2.2.1 ∧
 RR g_1.2.2.2.1 ∧
 (Z64 = Z64 ∧
 True) ∧
 g.2.1 = g.2.1 ∧
 True) ∧
 True) ∧
 ∀ (g_2 : List (List Int) × Int × List (Int × List Int) × List (Int × Int × Int × Int × Int) × Unit), (0 : Int) ≤ g_2.2.1 ∧
 g_2.2.1 ≤ (16 : Int) ∧
 (g_2.2.2.1 = g_1.2.2.1 ∧
 g_2.2.2.2.1 = g_1.2.2.2.1) ∧
 upto g_2.1 (holdI g.1 g_2.2.2.1 g_2.2.2.2.1) g_1.2.1 g_2.2.1 →
 (g_2.1.length = (4 : Nat) ∧
 ∀ (x : List Int), x ∈ g_2.1 →
 x.length = (16 : Nat) ∧
 ∀ (x_1 : Int), x_1 ∈ x →
 (-9223372036854775808 : Int) ≤ x_1 ∧
 x_1 ≤ (9223372036854775807 : Int)) ∧
 ((-9223372036854775808 : Int) ≤ g_2.2.1 ∧
 g_2.2.1 ≤ (9223372036854775807 : Int)) ∧
 ((List.map (fun x ↦ x.1) g_2.2.2.1).Nodup ∧
 ∀ (e : Int × List Int), e ∈ g_2.2.2.1 →
 (0 : Int) ≤ e.1 ∧
 e.2.length = (16 : Nat) ∧
 ∀ (x : Int), x ∈ e.2 →
 (0 : Int) ≤ x + (1 : Int) ∧
 True) ∧
 ((List.map (fun x ↦ x.1) g_2.2.2.2.1).Nodup ∧
 ∀ (e : Int × Int × Int × Int × Int), e ∈ g_2.2.2.2.1 →
 (0 : Int) ≤ e.1 ∧
 ((-9223372036854775808 : Int) ≤ e.2.1 ∧
 e.2.1 ≤ (9223372036854775807 : Int)) ∧
 ((-9223372036854775808 : Int) ≤ e.2.2.1 ∧
 e.2.2.1 ≤ (9223372036854775807 : Int)) ∧
 ((-9223372036854775808 : Int) ≤ e.2.2.2.1 ∧
 e.2.2.2.1 ≤ (9223372036854775807 : Int)) ∧
 (-9223372036854775808 : Int) ≤ e.2.2.2.2 ∧
 e.2.2.2.2 ≤ (9223372036854775807 : Int)) ∧
 True →
 (decide (g_2.2.1 < (16 : Int)) = true →
 ((0 : Int) ≤ g_1.2.1 ∧
 g_1.2.1 < (↑(4 : Nat) : Int)) ∧
 ((0 : Int) ≤ g_2.2.1 ∧
 g_2.2.1 < (↑(16 : Nat) : Int)) ∧
 ((!decide (g.1.getD g_1.2.1.toNat (-1 : Int) < (0 : Int))) = true →
 (!decide (g.1.getD g_1.2.1.toNat (-1 : Int) < (0 : Int))) = true ∧
 (0 : Int) ≤ g.1.getD g_1.2.1.toNat (-1 : Int)) ∧
 ((!decide (g.1.getD g_1.2.1.toNat (-1 : Int) < (0 : Int))) = true →
 ((!decide (g.1.getD g_1.2.1.toNat (-1 : Int) < (0 : Int))) = true ∧
 (!decide (g.1.getD g_1.2.1.toNat (-1 : Int) < (0 : Int))) = true) ∧
 (0 : Int) ≤ g_2.2.1 ∧
 g_2.2.1 < (↑(16 : Nat) : Int)) ∧
 ((!decide (g.1.getD g_1.2.1.toNat (-1 : Int) < (0 : Int))) = true →
 (!decide (g.1.getD g_1.2.1.toNat (-1 : Int) < (0 : Int))) = true ∧
 mhas TB g_2.2.2.1 (g.1.getD g_1.2.1.toNat (-1 : Int)) = true) ∧
 ((!decide (g.1.getD g_1.2.1.toNat (-1 : Int) < (0 : Int))) = true →
 (!decide (g.1.getD g_1.2.1.toNat (-1 : Int) < (0 : Int))) = true) ∧
 ((!decide (g.1.getD g_1.2.1.toNat (-1 : Int) < (0 : Int))) = true →
 (!decide (g.1.getD g_1.2.1.toNat (-1 : Int) < (0 : Int))) = true) ∧
 ((!decide (g.1.getD g_1.2.1.toNat (-1 : Int) < (0 : Int)) && !decide (List.getD (mval TB g_2.2.2.1 (g.1.getD g_1.2.1.toNat (-1 : Int))) g_2.2.1.toNat (-1 : Int) < (0 : Int))) = true →
 (0 : Int) ≤ g.1.getD g_1.2.1.toNat (-1 : Int) ∧
 ((0 : Int) ≤ g_2.2.1 ∧
 g_2.2.1 < (↑(16 : Nat) : Int)) ∧
 mhas TB g_2.2.2.1 (g.1.getD g_1.2.1.toNat (-1 : Int)) = true ∧
 (0 : Int) ≤ List.getD (mval TB g_2.2.2.1 (g.1.getD g_1.2.1.toNat (-1 : Int))) g_2.2.1.toNat (-1 : Int) ∧
 mhas tyopen g_2.2.2.2.1 (List.getD (mval TB g_2.2.2.1 (g.1.getD g_1.2.1.toNat (-1 : Int))) g_2.2.1.toNat (-1 : Int)) = true ∧
 ((0 : Int) ≤ g_1.2.1 ∧
 g_1.2.1 < (↑(4 : Nat) : Int)) ∧
 ((0 : Int) ≤ g_2.2.1 ∧
 g_2.2.1 < (↑(16 : Nat) : Int)) ∧
 ((-9223372036854775808 : Int) ≤ g_2.2.1 + (1 : Int) ∧
 g_2.2.1 + (1 : Int) ≤ (9223372036854775807 : Int)) ∧
 (((0 : Int) ≤ g_2.2.1 + (1 : Int) ∧
 g_2.2.1 + (1 : Int) ≤ (16 : Int) ∧
 (g_2.2.2.1 = g_1.2.2.1 ∧
 g_2.2.2.2.1 = g_1.2.2.2.1) ∧
 upto ((g_2.1.set g_1.2.1.toNat ((g_2.1.getD g_1.2.1.toNat Z16).set g_2.2.1.toNat (-1 : Int))).set g_1.2.1.toNat (((g_2.1.set g_1.2.1.toNat ((g_2.1.getD g_1.2.1.toNat Z16).set g_2.2.1.toNat (-1 : Int))).getD g_1.2.1.toNat Z16).set g_2.2.1.toNat (max (mval tyopen g_2.2.2.2.1 (List.getD (mval TB g_2.2.2.1 (g.1.getD g_1.2.1.toNat (-1 : Int))) g_2.2.1.toNat (-1 : Int))).1 (0 : Int)))) (holdI g.1 g_2.2.2.1 g_2.2.2.2.1) g_1.2.1 (g_2.2.1 + (1 : Int))) ∧
 ((16 : Int) - (g_2.2.1 + (1 : Int))).toNat < ((16 : Int) - g_2.2.1).toNat) ∧
 ((True ∧
 True) ∧
 True ∧
 (True ∧
 True) ∧
 g_1.2.1 = g_1.2.1 ∧
 RR (g.1.getD g_1.2.1.toNat (-1 : Int)) ∧
 (g.1 = g.1 ∧
 True) ∧
 g_1.2.1 = g_1.2.1 ∧
 g_2.2.1 + (1 : Int) = g_2.2.1 + (1 : Int) ∧
 True) ∧
 (((g_2.1.set g_1.2.1.toNat ((g_2.1.getD g_1.2.1.toNat Z16).set g_2.2.1.toNat (-1 : Int))).set g_1.2.1.toNat (((g_2.1.set g_1.2.1.toNat ((g_2.1.getD g_1.2.1.toNat Z16).set g_2.2.1.toNat (-1 : Int))).getD g_1.2.1.toNat Z16).set g_2.2.1.toNat (max (mval tyopen g_2.2.2.2.1 (List.getD (mval TB g_2.2.2.1 (g.1.getD g_1.2.1.toNat (-1 : Int))) g_2.2.1.toNat (-1 : Int))).1 (0 : Int))) = (g_2.1.set g_1.2.1.toNat ((g_2.1.getD g_1.2.1.toNat Z16).set g_2.2.1.toNat (-1 : Int))).set g_1.2.1.toNat (((g_2.1.set g_1.2.1.toNat ((g_2.1.getD g_1.2.1.toNat Z16).set g_2.2.1.toNat (-1 : Int))).getD g_1.2.1.toNat Z16).set g_2.2.1.toNat (max (mval tyopen g_2.2.2.2.1 (List.getD (mval TB g_2.2.2.1 (g.1.getD g_1.2.1.toNat (-1 : Int))) g_2.2.1.toNat (-1 : Int))).1 (0 : Int))) ∧
 True) ∧
 RR g_2.2.2.1 ∧
 RR g_2.2.2.2.1 ∧
 (Z64 = Z64 ∧
 True) ∧
 g.2.1 = g.2.1 ∧
 True) ∧
 True) ∧
 ((!decide (g.1.getD g_1.2.1.toNat (-1 : Int) < (0 : Int)) && !decide (List.getD (mval TB g_2.2.2.1 (g.1.getD g_1.2.1.toNat (-1 : Int))) g_2.2.1.toNat (-1 : Int) < (0 : Int))) = false →
 ((-9223372036854775808 : Int) ≤ g_2.2.1 + (1 : Int) ∧
 g_2.2.1 + (1 : Int) ≤ (9223372036854775807 : Int)) ∧
 (((0 : Int) ≤ g_2.2.1 + (1 : Int) ∧
 g_2.2.1 + (1 : Int) ≤ (16 : Int) ∧
 (g_2.2.2.1 = g_1.2.2.1 ∧
 g_2.2.2.2.1 = g_1.2.2.2.1) ∧
 upto (g_2.1.set g_1.2.1.toNat ((g_2.1.getD g_1.2.1.toNat Z16).set g_2.2.1.toNat (-1 : Int))) (holdI g.1 g_2.2.2.1 g_2.2.2.2.1) g_1.2.1 (g_2.2.1 + (1 : Int))) ∧
 ((16 : Int) - (g_2.2.1 + (1 : Int))).toNat < ((16 : Int) - g_2.2.1).toNat) ∧
 ((True ∧
 True) ∧
 True ∧
 (True ∧
 True) ∧
 g_1.2.1 = g_1.2.1 ∧
 RR (g.1.getD g_1.2.1.toNat (-1 : Int)) ∧
 (g.1 = g.1 ∧
 True) ∧
 g_1.2.1 = g_1.2.1 ∧
 g_2.2.1 + (1 : Int) = g_2.2.1 + (1 : Int) ∧
 True) ∧
 ((RR (g_2.1.set g_1.2.1.toNat ((g_2.1.getD g_1.2.1.toNat Z16).set g_2.2.1.toNat (-1 : Int))) ∧
 True) ∧
 RR g_2.2.2.1 ∧
 RR g_2.2.2.2.1 ∧
 (Z64 = Z64 ∧
 True) ∧
 g.2.1 = g.2.1 ∧
 True) ∧
 True)) ∧
 (decide (g_2.2.1 < (16 : Int)) = false →
 ((-9223372036854775808 : Int) ≤ g_1.2.1 + (1 : Int) ∧
 g_1.2.1 + (1 : Int) ≤ (9223372036854775807 : Int)) ∧
 (((0 : Int) ≤ g_1.2.1 + (1 : Int) ∧
 g_1.2.1 + (1 : Int) ≤ (4 : Int) ∧
 (g_2.2.2.1 = g.2.2.2.1 ∧
 g_2.2.2.2.1 = g.2.2.2.2.1) ∧
 upto g_2.1 (holdI g.1 g_2.2.2.1 g_2.2.2.2.1) (g_1.2.1 + (1 : Int)) (0 : Int)) ∧
 ((4 : Int) - (g_1.2.1 + (1 : Int))).toNat < ((4 : Int) - g_1.2.1).toNat) ∧
 ((True ∧
 True) ∧
 True ∧
 (True ∧
 True) ∧
 (g.1 = g.1 ∧
 True) ∧
 g_1.2.1 + (1 : Int) = g_1.2.1 + (1 : Int) ∧
 True) ∧
 ((g_2.1 = g_2.1 ∧
 True) ∧
 RR g_2.2.2.1 ∧
 RR g_2.2.2.2.1 ∧
 (Z64 = Z64 ∧
 True) ∧
 g.2.1 = g.2.1 ∧
 True) ∧
 True)) ∧
 (decide (g_1.2.1 < (4 : Int)) = false →
 g.2.1 = (fplay x.1).1 ∧
 g_1.1 = (fplay x.1).2.1))

theorem E_play_eq (x : HL (cPlay : Ctr).as) : vc (fx_play x) 4 12 Try.f12 (cPlay) x = E_play x := by kernel_rfl

def E_free (x : Int × List (List Int) × Unit) : Prop :=
 ((0 : Int) ≤ x.1 ∧ x.1 < (↑(4 : Nat) : Int)) ∧
 ((((0 : Int) ≤ (0 : Int) ∧
 (0 : Int) ≤ (16 : Int) ∧
 List.idxOf? (0 : Int)
 (List.take (Int.toNat (0 : Int))
 (x.2.1.getD x.1.toNat
 ((0 : Int) ::
 (0 : Int) ::
 (0 : Int) ::
 (0 : Int) ::
 (0 : Int) ::
 (0 : Int) ::
 (0 : Int) ::
 (0 : Int) ::
 (0 : Int) ::
 (0 : Int) :: (0 : Int) :: (0 : Int) :: (0 : Int) :: (0 : Int) :: (0 : Int) :: (0 : Int) :: ([] : List Int)))) =
 none) ∧
 True) ∧
 ((x.2.1.getD x.1.toNat
 ((0 : Int) ::
 (0 : Int) ::
 (0 : Int) ::
 (0 : Int) ::
 (0 : Int) ::
 (0 : Int) ::
 (0 : Int) ::
 (0 : Int) ::
 (0 : Int) ::
 (0 : Int) :: (0 : Int) :: (0 : Int) :: (0 : Int) :: (0 : Int) :: (0 : Int) :: (0 : Int) :: ([] : List Int)) =
 x.2.1.getD x.1.toNat
 ((0 : Int) ::
 (0 : Int) ::
 (0 : Int) ::
 (0 : Int) ::
 (0 : Int) ::
 (0 : Int) ::
 (0 : Int) ::
 (0 : Int) ::
 (0 : Int) ::
 (0 : Int) :: (0 : Int) :: (0 : Int) :: (0 : Int) :: (0 : Int) :: (0 : Int) :: (0 : Int) :: ([] : List Int)) ∧
 True) ∧
 (0 : Int) = (0 : Int) ∧ True) ∧
 ((x.2.1 = x.2.1 ∧ True) ∧ True) ∧ (True ∧ True) ∧ True) ∧
 ∀ (g : Int × Unit),
 (0 : Int) ≤ g.1 ∧
 g.1 ≤ (16 : Int) ∧
 List.idxOf? (0 : Int)
 (List.take g.1.toNat
 (x.2.1.getD x.1.toNat
 ((0 : Int) ::
 (0 : Int) ::
 (0 : Int) ::
 (0 : Int) ::
 (0 : Int) ::
 (0 : Int) ::
 (0 : Int) ::
 (0 : Int) ::
 (0 : Int) ::
 (0 : Int) :: (0 : Int) :: (0 : Int) :: (0 : Int) :: (0 : Int) :: (0 : Int) :: (0 : Int) :: ([] : List Int)))) =
 none →
 ((-9223372036854775808 : Int) ≤ g.1 ∧ g.1 ≤ (9223372036854775807 : Int)) ∧ True →
 (decide (g.1 < (16 : Int)) = true →
 ((0 : Int) ≤ g.1 ∧ g.1 < (↑(16 : Nat) : Int)) ∧
 (((x.2.1.getD x.1.toNat
 ((0 : Int) ::
 (0 : Int) ::
 (0 : Int) ::
 (0 : Int) ::
 (0 : Int) ::
 (0 : Int) ::
 (0 : Int) ::
 (0 : Int) ::
 (0 : Int) ::
 (0 : Int) ::
 (0 : Int) :: (0 : Int) :: (0 : Int) :: (0 : Int) :: (0 : Int) :: (0 : Int) :: ([] : List Int))).getD
 g.1.toNat (0 : Int) ==
 (0 : Int)) =
 true →
 g.1 = idx (row x.2.1 x.1) (0 : Int) ∧ ((True ∧ True) ∧ True) ∧ ((x.2.1 = x.2.1 ∧ True) ∧ True) ∧ True) ∧
 (((x.2.1.getD x.1.toNat
 ((0 : Int) ::
 (0 : Int) ::
 (0 : Int) ::
 (0 : Int) ::
 (0 : Int) ::
 (0 : Int) ::
 (0 : Int) ::
 (0 : Int) ::
 (0 : Int) ::
 (0 : Int) ::
 (0 : Int) :: (0 : Int) :: (0 : Int) :: (0 : Int) :: (0 : Int) :: (0 : Int) :: ([] : List Int))).getD
 g.1.toNat (0 : Int) ==
 (0 : Int)) =
 false →
 ((-9223372036854775808 : Int) ≤ g.1 + (1 : Int) ∧ g.1 + (1 : Int) ≤ (9223372036854775807 : Int)) ∧
 (((0 : Int) ≤ g.1 + (1 : Int) ∧
 g.1 + (1 : Int) ≤ (16 : Int) ∧
 List.idxOf? (0 : Int)
 (List.take (g.1 + (1 : Int)).toNat
 (x.2.1.getD x.1.toNat
 ((0 : Int) ::
 (0 : Int) ::
 (0 : Int) ::
 (0 : Int) ::
 (0 : Int) ::
 (0 : Int) ::
 (0 : Int) ::
 (0 : Int) ::
 (0 : Int) ::
 (0 : Int) ::
 (0 : Int) ::
 (0 : Int) :: (0 : Int) :: (0 : Int) :: (0 : Int) :: (0 : Int) :: ([] : List Int)))) =
 none) ∧
 ((16 : Int) - (g.1 + (1 : Int))).toNat < ((16 : Int) - g.1).toNat) ∧
 ((x.2.1.getD x.1.toNat
 ((0 : Int) ::
 (0 : Int) ::
 (0 : Int) ::
 (0 : Int) ::
 (0 : Int) ::
 (0 : Int) ::
 (0 : Int) ::
 (0 : Int) ::
 (0 : Int) ::
 (0 : Int) ::
 (0 : Int) :: (0 : Int) :: (0 : Int) :: (0 : Int) :: (0 : Int) :: (0 : Int) :: ([] : List Int)) =
 x.2.1.getD x.1.toNat
 ((0 : Int) ::
 (0 : Int) ::
 (0 : Int) ::
 (0 : Int) ::
 (0 : Int) ::
 (0 : Int) ::
 (0 : Int) ::
 (0 : Int) ::
 (0 : Int) ::
 (0 : Int) ::
 (0 : Int) :: (0 : Int) :: (0 : Int) :: (0 : Int) :: (0 : Int) :: (0 : Int) :: ([] : List Int)) ∧
 True) ∧
 g.1 + (1 : Int) = g.1 + (1 : Int) ∧ True) ∧
 ((x.2.1 = x.2.1 ∧ True) ∧ True) ∧ (True ∧ True) ∧ True)) ∧
 (decide (g.1 < (16 : Int)) = false →
 (-1 : Int) = idx (row x.2.1 x.1) (0 : Int) ∧ ((True ∧ True) ∧ True) ∧ ((x.2.1 = x.2.1 ∧ True) ∧ True) ∧ True)

theorem E_free_eq (x : (pFree : Prc).G) : vcPr (fx_free x) 1 31 Try.f31 (pFree) x = E_free x := by kernel_rfl

def E_vplay (x : List (Int × Int × Int × Int × Int × Int × Int) × Unit) : Prop := ((((0 : Int) ≤ (0 : Int) ∧
 (0 : Int) ≤ (↑x.1.length : Int) ∧
 frun (List.take (Int.toNat (0 : Int)) x.1) = ((Z64, (false :: false :: false :: false :: ([] : List Bool)).set (0 : Nat) true, ([] : List Int), ([] : List Int), ([] : List Int)), ([] : List (Int × Int)))) ∧
 True) ∧
 ((True ∧
 True) ∧
 (True ∧
 True) ∧
 (True ∧
 True) ∧
 True ∧
 True ∧
 True ∧
 True ∧
 True ∧
 x.1 = x.1 ∧
 RR (↑x.1.length : Int) ∧
 RR (0 : Int) ∧
 True) ∧
 ((Z64 = Z64 ∧
 True) ∧
 (true :: false :: false :: false :: ([] : List Bool) = (false :: false :: false :: false :: ([] : List Bool)).set (0 : Nat) true ∧
 True) ∧
 RR ([] : List Int) ∧
 RR ([] : List Int) ∧
 RR ([] : List Int) ∧
 RR ([] : List (Int × Int)) ∧
 (Z64 = Z64 ∧
 True) ∧
 (True ∧
 (True ∧
 True) ∧
 True) ∧
 True) ∧
 True) ∧
 ∀ (g : List (List Int) × List Bool × List Int × List Int × List Int × List (Int × Int) × Int × Unit), (0 : Int) ≤ g.2.2.2.2.2.2.1 ∧
 g.2.2.2.2.2.2.1 ≤ (↑x.1.length : Int) ∧
 frun (List.take g.2.2.2.2.2.2.1.toNat x.1) = ((g.1, g.2.1, g.2.2.1, g.2.2.2.1, g.2.2.2.2.1), g.2.2.2.2.2.1) →
 (g.1.length = (4 : Nat) ∧
 ∀ (x : List Int), x ∈ g.1 →
 x.length = (16 : Nat) ∧
 ∀ (x_1 : Int), x_1 ∈ x →
 (-9223372036854775808 : Int) ≤ x_1 ∧
 x_1 ≤ (9223372036854775807 : Int)) ∧
 (g.2.1.length = (4 : Nat) ∧
 ∀ (x : Bool), x ∈ g.2.1 →
 True) ∧
 (g.2.2.1.length ≤ (9223372036854775807 : Nat) ∧
 ∀ (x : Int), x ∈ g.2.2.1 →
 (-9223372036854775808 : Int) ≤ x ∧
 x ≤ (9223372036854775807 : Int)) ∧
 (g.2.2.2.1.length ≤ (9223372036854775807 : Nat) ∧
 ∀ (x : Int), x ∈ g.2.2.2.1 →
 (-9223372036854775808 : Int) ≤ x ∧
 x ≤ (9223372036854775807 : Int)) ∧
 (g.2.2.2.2.1.length ≤ (9223372036854775807 : Nat) ∧
 ∀ (x : Int), x ∈ g.2.2.2.2.1 →
 (-9223372036854775808 : Int) ≤ x ∧
 x ≤ (9223372036854775807 : Int)) ∧
 (g.2.2.2.2.2.1.length ≤ (9223372036854775807 : Nat) ∧
 ∀ (x : Int × Int), x ∈ g.2.2.2.2.2.1 →
 ((-9223372036854775808 : Int) ≤ x.1 ∧
 x.1 ≤ (9223372036854775807 : Int)) ∧
 (-9223372036854775808 : Int) ≤ x.2 ∧
 x.2 ≤ (9223372036854775807 : Int)) ∧
 ((-9223372036854775808 : Int) ≤ g.2.2.2.2.2.2.1 ∧
 g.2.2.2.2.2.2.1 ≤ (9223372036854775807 : Int)) ∧
 True →
 (decide (g.2.2.2.2.2.2.1 < (↑x.1.length : Int)) = true →
 ((0 : Int) ≤ g.2.2.2.2.2.2.1 ∧
 g.2.2.2.2.2.2.1 < (↑x.1.length : Int)) ∧
 (decide ((0 : Int) ≤ (opAt x.1 g.2.2.2.2.2.2.1).2.1) = true →
 decide ((0 : Int) ≤ (opAt x.1 g.2.2.2.2.2.2.1).2.1) = true) ∧
 (decide ((0 : Int) ≤ (opAt x.1 g.2.2.2.2.2.2.1).2.1) = true →
 decide ((0 : Int) ≤ (opAt x.1 g.2.2.2.2.2.2.1).2.1) = true) ∧
 ((decide ((0 : Int) ≤ (opAt x.1 g.2.2.2.2.2.2.1).2.1) && decide ((opAt x.1 g.2.2.2.2.2.2.1).2.1 < (4 : Int))) = true →
 (decide ((0 : Int) ≤ (opAt x.1 g.2.2.2.2.2.2.1).2.1) && decide ((opAt x.1 g.2.2.2.2.2.2.1).2.1 < (4 : Int))) = true ∧
 (0 : Int) ≤ (opAt x.1 g.2.2.2.2.2.2.1).2.1 ∧
 (opAt x.1 g.2.2.2.2.2.2.1).2.1 < (↑(4 : Nat) : Int)) ∧
 ((decide ((0 : Int) ≤ (opAt x.1 g.2.2.2.2.2.2.1).2.1) && decide ((opAt x.1 g.2.2.2.2.2.2.1).2.1 < (4 : Int))) = true →
 (decide ((0 : Int) ≤ (opAt x.1 g.2.2.2.2.2.2.1).2.1) && decide ((opAt x.1 g.2.2.2.2.2.2.1).2.1 < (4 : Int))) = true) ∧
 ((decide ((0 : Int) ≤ (opAt x.1 g.2.2.2.2.2.2.1).2.1) && decide ((opAt x.1 g.2.2.2.2.2.2.1).2.1 < (4 : Int))) = true →
 (decide ((0 : Int) ≤ (opAt x.1 g.2.2.2.2.2.2.1).2.1) && decide ((opAt x.1 g.2.2.2.2.2.2.1).2.1 < (4 : Int))) = true) ∧
 (((decide ((0 : Int) ≤ (opAt x.1 g.2.2.2.2.2.2.1).2.1) && decide ((opAt x.1 g.2.2.2.2.2.2.1).2.1 < (4 : Int)) && g.2.1.getD (opAt x.1 g.2.2.2.2.2.2.1).2.1.toNat false) = true →
 (decide ((0 : Int) ≤ (opAt x.1 g.2.2.2.2.2.2.1).2.1) && decide ((opAt x.1 g.2.2.2.2.2.2.1).2.1 < (4 : Int)) && g.2.1.getD (opAt x.1 g.2.2.2.2.2.2.1).2.1.toNat false) = true) ∧
 ((decide ((0 : Int) ≤ (opAt x.1 g.2.2.2.2.2.2.1).2.1) && decide ((opAt x.1 g.2.2.2.2.2.2.1).2.1 < (4 : Int)) && g.2.1.getD (opAt x.1 g.2.2.2.2.2.2.1).2.1.toNat false) = true →
 (decide ((0 : Int) ≤ (opAt x.1 g.2.2.2.2.2.2.1).2.1) && decide ((opAt x.1 g.2.2.2.2.2.2.1).2.1 < (4 : Int)) && g.2.1.getD (opAt x.1 g.2.2.2.2.2.2.1).2.1.toNat false) = true) ∧
 ((decide ((0 : Int) ≤ (opAt x.1 g.2.2.2.2.2.2.1).2.1) && decide ((opAt x.1 g.2.2.2.2.2.2.1).2.1 < (4 : Int)) && g.2.1.getD (opAt x.1 g.2.2.2.2.2.2.1).2.1.toNat false && decide ((0 : Int) ≤ (opAt x.1 g.2.2.2.2.2.2.1).2.2.2.2.1)) = true →
 (decide ((0 : Int) ≤ (opAt x.1 g.2.2.2.2.2.2.1).2.1) && decide ((opAt x.1 g.2.2.2.2.2.2.1).2.1 < (4 : Int)) && g.2.1.getD (opAt x.1 g.2.2.2.2.2.2.1).2.1.toNat false && decide ((0 : Int) ≤ (opAt x.1 g.2.2.2.2.2.2.1).2.2.2.2.1)) = true) ∧
 ((decide ((0 : Int) ≤ (opAt x.1 g.2.2.2.2.2.2.1).2.1) && decide ((opAt x.1 g.2.2.2.2.2.2.1).2.1 < (4 : Int)) && g.2.1.getD (opAt x.1 g.2.2.2.2.2.2.1).2.1.toNat false && decide ((0 : Int) ≤ (opAt x.1 g.2.2.2.2.2.2.1).2.2.2.2.1)) = true →
 (decide ((0 : Int) ≤ (opAt x.1 g.2.2.2.2.2.2.1).2.1) && decide ((opAt x.1 g.2.2.2.2.2.2.1).2.1 < (4 : Int)) && g.2.1.getD (opAt x.1 g.2.2.2.2.2.2.1).2.1.toNat false && decide ((0 : Int) ≤ (opAt x.1 g.2.2.2.2.2.2.1).2.2.2.2.1)) = true) ∧
 ((decide ((0 : Int) ≤ (opAt x.1 g.2.2.2.2.2.2.1).2.1) && decide ((opAt x.1 g.2.2.2.2.2.2.1).2.1 < (4 : Int)) && g.2.1.getD (opAt x.1 g.2.2.2.2.2.2.1).2.1.toNat false && decide ((0 : Int) ≤ (opAt x.1 g.2.2.2.2.2.2.1).2.2.2.2.1) && decide ((opAt x.1 g.2.2.2.2.2.2.1).2.2.2.2.1 < (16 : Int))) = true →
 ((0 : Int) ≤ (opAt x.1 g.2.2.2.2.2.2.1).2.1 ∧
 (opAt x.1 g.2.2.2.2.2.2.1).2.1 < (↑(4 : Nat) : Int)) ∧
 ((0 : Int) ≤ (opAt x.1 g.2.2.2.2.2.2.1).2.2.2.2.1 ∧
 (opAt x.1 g.2.2.2.2.2.2.1).2.2.2.2.1 < (↑(16 : Nat) : Int)) ∧
 ((-9223372036854775808 : Int) ≤ (g.1.getD (opAt x.1 g.2.2.2.2.2.2.1).2.1.toNat Z16).getD (opAt x.1 g.2.2.2.2.2.2.1).2.2.2.2.1.toNat (0 : Int) - (1 : Int) ∧
 (g.1.getD (opAt x.1 g.2.2.2.2.2.2.1).2.1.toNat Z16).getD (opAt x.1 g.2.2.2.2.2.2.1).2.2.2.2.1.toNat (0 : Int) - (1 : Int) ≤ (9223372036854775807 : Int)) ∧
 ((g.1.getD (opAt x.1 g.2.2.2.2.2.2.1).2.1.toNat Z16).getD (opAt x.1 g.2.2.2.2.2.2.1).2.2.2.2.1.toNat (0 : Int) - (1 : Int) = meanV g.1 (decide ((0 : Int) ≤ (opAt x.1 g.2.2.2.2.2.2.1).2.1) && decide ((opAt x.1 g.2.2.2.2.2.2.1).2.1 < (4 : Int)) && g.2.1.getD (opAt x.1 g.2.2.2.2.2.2.1).2.1.toNat false) (opAt x.1 g.2.2.2.2.2.2.1).2.1 (opAt x.1 g.2.2.2.2.2.2.1).2.2.2.2.1 ∧
 True) ∧
 ((True ∧
 True) ∧
 (True ∧
 True) ∧
 (True ∧
 True) ∧
 True ∧
 True ∧
 True ∧
 True ∧
 True ∧
 (True ∧
 True) ∧
 (True ∧
 True) ∧
 RR ((opAt x.1 g.2.2.2.2.2.2.1).2.1) ∧
 RR ((opAt x.1 g.2.2.2.2.2.2.1).2.2.2.2.1) ∧
 (g.1.getD (opAt x.1 g.2.2.2.2.2.2.1).2.1.toNat Z16).getD (opAt x.1 g.2.2.2.2.2.2.1).2.2.2.2.1.toNat (0 : Int) - (1 : Int) = (g.1.getD (opAt x.1 g.2.2.2.2.2.2.1).2.1.toNat Z16).getD (opAt x.1 g.2.2.2.2.2.2.1).2.2.2.2.1.toNat (0 : Int) - (1 : Int) ∧
 RR (decide ((0 : Int) ≤ (opAt x.1 g.2.2.2.2.2.2.1).2.1) && decide ((opAt x.1 g.2.2.2.2.2.2.1).2.1 < (4 : Int)) && g.2.1.getD (opAt x.1 g.2.2.2.2.2.2.1).2.1.toNat false) ∧
 x.1 = x.1 ∧
 RR (↑x.1.length : Int) ∧
 RR g.2.2.2.2.2.2.1 ∧
 True) ∧
 ((Z64 = Z64 ∧
 True) ∧
 (g.1 = g.1 ∧
 True) ∧
 (g.2.1 = g.2.1 ∧
 True) ∧
 g.2.2.1 = g.2.2.1 ∧
 RR g.2.2.2.1 ∧
 RR g.2.2.2.2.1 ∧
 (True ∧
 (True ∧
 True) ∧
 True) ∧
 RR g.2.2.2.2.2.1 ∧
 (RR ((opAt x.1 g.2.2.2.2.2.2.1).1) ∧
 RR ((opAt x.1 g.2.2.2.2.2.2.1).2.1) ∧
 RR ((opAt x.1 g.2.2.2.2.2.2.1).2.2.1) ∧
 RR ((opAt x.1 g.2.2.2.2.2.2.1).2.2.2.1) ∧
 RR ((opAt x.1 g.2.2.2.2.2.2.1).2.2.2.2.1) ∧
 RR ((opAt x.1 g.2.2.2.2.2.2.1).2.2.2.2.2.1) ∧
 RR ((opAt x.1 g.2.2.2.2.2.2.1).2.2.2.2.2.2) ∧
 True) ∧
 (RR (0 : Int) ∧
 RR (0 : Int) ∧
 True) ∧
 True) ∧
 True) ∧
 ((decide ((0 : Int) ≤ (opAt x.1 g.2.2.2.2.2.2.1).2.1) && decide ((opAt x.1 g.2.2.2.2.2.2.1).2.1 < (4 : Int)) && g.2.1.getD (opAt x.1 g.2.2.2.2.2.2.1).2.1.toNat false && decide ((0 : Int) ≤ (opAt x.1 g.2.2.2.2.2.2.1).2.2.2.2.1) && decide ((opAt x.1 g.2.2.2.2.2.2.1).2.2.2.2.1 < (16 : Int))) = false →
 ((-1 : Int) = meanV g.1 (decide ((0 : Int) ≤ (opAt x.1 g.2.2.2.2.2.2.1).2.1) && decide ((opAt x.1 g.2.2.2.2.2.2.1).2.1 < (4 : Int)) && g.2.1.getD (opAt x.1 g.2.2.2.2.2.2.1).2.1.toNat false) (opAt x.1 g.2.2.2.2.2.2.1).2.1 (opAt x.1 g.2.2.2.2.2.2.1).2.2.2.2.1 ∧
 True) ∧
 ((True ∧
 True) ∧
 (True ∧
 True) ∧
 (True ∧
 True) ∧
 True ∧
 True ∧
 True ∧
 True ∧
 True ∧
 (True ∧
 True) ∧
 (True ∧
 True) ∧
 RR ((opAt x.1 g.2.2.2.2.2.2.1).2.1) ∧
 RR ((opAt x.1 g.2.2.2.2.2.2.1).2.2.2.2.1) ∧
 RR (-1 : Int) ∧
 RR (decide ((0 : Int) ≤ (opAt x.1 g.2.2.2.2.2.2.1).2.1) && decide ((opAt x.1 g.2.2.2.2.2.2.1).2.1 < (4 : Int)) && g.2.1.getD (opAt x.1 g.2.2.2.2.2.2.1).2.1.toNat false) ∧
 x.1 = x.1 ∧
 RR (↑x.1.length : Int) ∧
 RR g.2.2.2.2.2.2.1 ∧
 True) ∧
 ((Z64 = Z64 ∧
 True) ∧
 (g.1 = g.1 ∧
 True) ∧
 (g.2.1 = g.2.1 ∧
 True) ∧
 g.2.2.1 = g.2.2.1 ∧
 RR g.2.2.2.1 ∧
 RR g.2.2.2.2.1 ∧
 (True ∧
 (True ∧
 True) ∧
 True) ∧
 RR g.2.2.2.2.2.1 ∧
 (RR ((opAt x.1 g.2.2.2.2.2.2.1).1) ∧
 RR ((opAt x.1 g.2.2.2.2.2.2.1).2.1) ∧
 RR ((opAt x.1 g.2.2.2.2.2.2.1).2.2.1) ∧
 RR ((opAt x.1 g.2.2.2.2.2.2.1).2.2.2.1) ∧
 RR ((opAt x.1 g.2.2.2.2.2.2.1).2.2.2.2.1) ∧
 RR ((opAt x.1 g.2.2.2.2.2.2.1).2.2.2.2.2.1) ∧
 RR ((opAt x.1 g.2.2.2.2.2.2.1).2.2.2.2.2.2) ∧
 True) ∧
 (RR (0 : Int) ∧
 RR (0 : Int) ∧
 True) ∧
 True) ∧
 True)) ∧
 ∀ (g_1 : Int × Unit), g_1.1 = meanV g.1 (decide ((0 : Int) ≤ (opAt x.1 g.2.2.2.2.2.2.1).2.1) && decide ((opAt x.1 g.2.2.2.2.2.2.1).2.1 < (4 : Int)) && g.2.1.getD (opAt x.1 g.2.2.2.2.2.2.1).2.1.toNat false) (opAt x.1 g.2.2.2.2.2.2.1).2.1 (opAt x.1 g.2.2.2.2.2.2.1).2.2.2.2.1 →
 ((-9223372036854775808 : Int) ≤ g_1.1 ∧
 g_1.1 ≤ (9223372036854775807 : Int)) ∧
 True →
 (((!decide ((opAt x.1 g.2.2.2.2.2.2.1).1 < (1 : Int))) = true →
 (!decide ((opAt x.1 g.2.2.2.2.2.2.1).1 < (1 : Int))) = true) ∧
 ((!decide ((opAt x.1 g.2.2.2.2.2.2.1).1 < (1 : Int))) = true →
 (!decide ((opAt x.1 g.2.2.2.2.2.2.1).1 < (1 : Int))) = true) ∧
 (decide ((opAt x.1 g.2.2.2.2.2.2.1).1 < (1 : Int)) = false →
 (!decide ((opAt x.1 g.2.2.2.2.2.2.1).1 < (1 : Int))) = true) ∧
 ((decide ((opAt x.1 g.2.2.2.2.2.2.1).1 < (1 : Int)) || decide ((7 : Int) < (opAt x.1 g.2.2.2.2.2.2.1).1)) = true →
 (doV (g.1, g.2.1, g.2.2.1, g.2.2.2.1, g.2.2.2.2.1) (decide ((0 : Int) ≤ (opAt x.1 g.2.2.2.2.2.2.1).2.1) && decide ((opAt x.1 g.2.2.2.2.2.2.1).2.1 < (4 : Int)) && g.2.1.getD (opAt x.1 g.2.2.2.2.2.2.1).2.1.toNat false) g_1.1 ((opAt x.1 g.2.2.2.2.2.2.1).1, (opAt x.1 g.2.2.2.2.2.2.1).2.1, (opAt x.1 g.2.2.2.2.2.2.1).2.2.1, (opAt x.1 g.2.2.2.2.2.2.1).2.2.2.1, (opAt x.1 g.2.2.2.2.2.2.1).2.2.2.2.1, (opAt x.1 g.2.2.2.2.2.2.1).2.2.2.2.2.1, (opAt x.1 g.2.2.2.2.2.2.1).2.2.2.2.2.2) = ((g.1, g.2.1, g.2.2.1, g.2.2.2.1, g.2.2.2.2.1), (5 : Int), (0 : Int)) ∧
 True) ∧
 ((True ∧
 True) ∧
 (True ∧
 True) ∧
 (True ∧
 True) ∧
 True ∧
 True ∧
 True ∧
 True ∧
 True ∧
 (True ∧
 True) ∧
 x.1 = x.1 ∧
 RR (↑x.1.length : Int) ∧
 RR g.2.2.2.2.2.2.1 ∧
 True) ∧
 ((g.1 = g.1 ∧
 True) ∧
 (g.2.1 = g.2.1 ∧
 True) ∧
 g.2.2.1 = g.2.2.1 ∧
 RR g.2.2.2.1 ∧
 RR g.2.2.2.2.1 ∧
 (RR (5 : Int) ∧
 RR (0 : Int) ∧
 True) ∧
 (Z64 = Z64 ∧
 True) ∧
 (True ∧
 (True ∧
 True) ∧
 True) ∧
 RR g.2.2.2.2.2.1 ∧
 True) ∧
 True) ∧
 ((decide ((opAt x.1 g.2.2.2.2.2.2.1).1 < (1 : Int)) || decide ((7 : Int) < (opAt x.1 g.2.2.2.2.2.2.1).1)) = false →
 ((!(decide ((0 : Int) ≤ (opAt x.1 g.2.2.2.2.2.2.1).2.1) && decide ((opAt x.1 g.2.2.2.2.2.2.1).2.1 < (4 : Int)) && g.2.1.getD (opAt x.1 g.2.2.2.2.2.2.1).2.1.toNat false)) = true →
 (doV (g.1, g.2.1, g.2.2.1, g.2.2.2.1, g.2.2.2.2.1) (decide ((0 : Int) ≤ (opAt x.1 g.2.2.2.2.2.2.1).2.1) && decide ((opAt x.1 g.2.2.2.2.2.2.1).2.1 < (4 : Int)) && g.2.1.getD (opAt x.1 g.2.2.2.2.2.2.1).2.1.toNat false) g_1.1 ((opAt x.1 g.2.2.2.2.2.2.1).1, (opAt x.1 g.2.2.2.2.2.2.1).2.1, (opAt x.1 g.2.2.2.2.2.2.1).2.2.1, (opAt x.1 g.2.2.2.2.2.2.1).2.2.2.1, (opAt x.1 g.2.2.2.2.2.2.1).2.2.2.2.1, (opAt x.1 g.2.2.2.2.2.2.1).2.2.2.2.2.1, (opAt x.1 g.2.2.2.2.2.2.1).2.2.2.2.2.2) = ((g.1, g.2.1, g.2.2.1, g.2.2.2.1, g.2.2.2.2.1), (3 : Int), (0 : Int)) ∧
 True) ∧
 ((True ∧
 True) ∧
 (True ∧
 True) ∧
 (True ∧
 True) ∧
 True ∧
 True ∧
 True ∧
 True ∧
 True ∧
 (True ∧
 True) ∧
 x.1 = x.1 ∧
 RR (↑x.1.length : Int) ∧
 RR g.2.2.2.2.2.2.1 ∧
 True) ∧
 ((g.1 = g.1 ∧
 True) ∧
 (g.2.1 = g.2.1 ∧
 True) ∧
 g.2.2.1 = g.2.2.1 ∧
 RR g.2.2.2.1 ∧
 RR g.2.2.2.2.1 ∧
 (RR (3 : Int) ∧
 RR (0 : Int) ∧
 True) ∧
 (Z64 = Z64 ∧
 True) ∧
 (True ∧
 (True ∧
 True) ∧
 True) ∧
 RR g.2.2.2.2.2.1 ∧
 True) ∧
 True) ∧
 ((!(decide ((0 : Int) ≤ (opAt x.1 g.2.2.2.2.2.2.1).2.1) && decide ((opAt x.1 g.2.2.2.2.2.2.1).2.1 < (4 : Int)) && g.2.1.getD (opAt x.1 g.2.2.2.2.2.2.1).2.1.toNat false)) = false →
 (((opAt x.1 g.2.2.2.2.2.2.1).1 == (1 : Int)) = true →
 ((opAt x.1 g.2.2.2.2.2.2.1).1 == (1 : Int)) = true) ∧
 (((opAt x.1 g.2.2.2.2.2.2.1).1 == (1 : Int)) = true →
 ((opAt x.1 g.2.2.2.2.2.2.1).1 == (1 : Int)) = true) ∧
 (((opAt x.1 g.2.2.2.2.2.2.1).1 == (1 : Int)) = true →
 ((opAt x.1 g.2.2.2.2.2.2.1).1 == (1 : Int)) = true) ∧
 (((opAt x.1 g.2.2.2.2.2.2.1).1 == (1 : Int) && !decide ((opAt x.1 g.2.2.2.2.2.2.1).2.2.2.1 < (0 : Int))) = true →
 ((opAt x.1 g.2.2.2.2.2.2.1).1 == (1 : Int) && !decide ((opAt x.1 g.2.2.2.2.2.2.1).2.2.2.1 < (0 : Int))) = true) ∧
 (((opAt x.1 g.2.2.2.2.2.2.1).1 == (1 : Int) && !decide ((opAt x.1 g.2.2.2.2.2.2.1).2.2.2.1 < (0 : Int))) = true →
 ((opAt x.1 g.2.2.2.2.2.2.1).1 == (1 : Int) && !decide ((opAt x.1 g.2.2.2.2.2.2.1).2.2.2.1 < (0 : Int))) = true) ∧
 (((opAt x.1 g.2.2.2.2.2.2.1).1 == (1 : Int)) = true →
 ((opAt x.1 g.2.2.2.2.2.2.1).1 == (1 : Int)) = true ∧
 (decide ((opAt x.1 g.2.2.2.2.2.2.1).2.2.2.1 < (0 : Int)) = false →
 ((opAt x.1 g.2.2.2.2.2.2.1).1 == (1 : Int) && !decide ((opAt x.1 g.2.2.2.2.2.2.1).2.2.2.1 < (0 : Int))) = true)) ∧
 (((opAt x.1 g.2.2.2.2.2.2.1).1 == (1 : Int)) = true →
 ((opAt x.1 g.2.2.2.2.2.2.1).1 == (1 : Int)) = true) ∧
 (((opAt x.1 g.2.2.2.2.2.2.1).1 == (1 : Int) && (decide ((opAt x.1 g.2.2.2.2.2.2.1).2.2.2.1 < (0 : Int)) || decide ((1099511627776 : Int) < (opAt x.1 g.2.2.2.2.2.2.1).2.2.2.1))) = true →
 (doV (g.1, g.2.1, g.2.2.1, g.2.2.2.1, g.2.2.2.2.1) (decide ((0 : Int) ≤ (opAt x.1 g.2.2.2.2.2.2.1).2.1) && decide ((opAt x.1 g.2.2.2.2.2.2.1).2.1 < (4 : Int)) && g.2.1.getD (opAt x.1 g.2.2.2.2.2.2.1).2.1.toNat false) g_1.1 ((opAt x.1 g.2.2.2.2.2.2.1).1, (opAt x.1 g.2.2.2.2.2.2.1).2.1, (opAt x.1 g.2.2.2.2.2.2.1).2.2.1, (opAt x.1 g.2.2.2.2.2.2.1).2.2.2.1, (opAt x.1 g.2.2.2.2.2.2.1).2.2.2.2.1, (opAt x.1 g.2.2.2.2.2.2.1).2.2.2.2.2.1, (opAt x.1 g.2.2.2.2.2.2.1).2.2.2.2.2.2) = ((g.1, g.2.1, g.2.2.1, g.2.2.2.1, g.2.2.2.2.1), (2 : Int), (0 : Int)) ∧
 True) ∧
 ((True ∧
 True) ∧
 (True ∧
 True) ∧
 (True ∧
 True) ∧
 True ∧
 True ∧
 True ∧
 True ∧
 True ∧
 (True ∧
 True) ∧
 x.1 = x.1 ∧
 RR (↑x.1.length : Int) ∧
 RR g.2.2.2.2.2.2.1 ∧
 True) ∧
 ((g.1 = g.1 ∧
 True) ∧
 (g.2.1 = g.2.1 ∧
 True) ∧
 g.2.2.1 = g.2.2.1 ∧
 RR g.2.2.2.1 ∧
 RR g.2.2.2.2.1 ∧
 (RR (2 : Int) ∧
 RR (0 : Int) ∧
 True) ∧
 (Z64 = Z64 ∧
 True) ∧
 (True ∧
 (True ∧
 True) ∧
 True) ∧
 RR g.2.2.2.2.2.1 ∧
 True) ∧
 True) ∧
 (((opAt x.1 g.2.2.2.2.2.2.1).1 == (1 : Int) && (decide ((opAt x.1 g.2.2.2.2.2.2.1).2.2.2.1 < (0 : Int)) || decide ((1099511627776 : Int) < (opAt x.1 g.2.2.2.2.2.2.1).2.2.2.1))) = false →
 (((opAt x.1 g.2.2.2.2.2.2.1).1 == (7 : Int)) = true →
 ((opAt x.1 g.2.2.2.2.2.2.1).1 == (7 : Int)) = true) ∧
 (((opAt x.1 g.2.2.2.2.2.2.1).1 == (7 : Int)) = true →
 ((opAt x.1 g.2.2.2.2.2.2.1).1 == (7 : Int)) = true) ∧
 (((opAt x.1 g.2.2.2.2.2.2.1).1 == (7 : Int)) = true →
 ((opAt x.1 g.2.2.2.2.2.2.1).1 == (7 : Int)) = true) ∧
 (((opAt x.1 g.2.2.2.2.2.2.1).1 == (7 : Int) && !decide ((opAt x.1 g.2.2.2.2.2.2.1).2.2.2.2.2.1 < (0 : Int))) = true →
 ((opAt x.1 g.2.2.2.2.2.2.1).1 == (7 : Int) && !decide ((opAt x.1 g.2.2.2.2.2.2.1).2.2.2.2.2.1 < (0 : Int))) = true) ∧
 (((opAt x.1 g.2.2.2.2.2.2.1).1 == (7 : Int) && !decide ((opAt x.1 g.2.2.2.2.2.2.1).2.2.2.2.2.1 < (0 : Int))) = true →
 ((opAt x.1 g.2.2.2.2.2.2.1).1 == (7 : Int) && !decide ((opAt x.1 g.2.2.2.2.2.2.1).2.2.2.2.2.1 < (0 : Int))) = true) ∧
 (((opAt x.1 g.2.2.2.2.2.2.1).1 == (7 : Int)) = true →
 ((opAt x.1 g.2.2.2.2.2.2.1).1 == (7 : Int)) = true ∧
 (decide ((opAt x.1 g.2.2.2.2.2.2.1).2.2.2.2.2.1 < (0 : Int)) = false →
 ((opAt x.1 g.2.2.2.2.2.2.1).1 == (7 : Int) && !decide ((opAt x.1 g.2.2.2.2.2.2.1).2.2.2.2.2.1 < (0 : Int))) = true)) ∧
 (((opAt x.1 g.2.2.2.2.2.2.1).1 == (7 : Int)) = true →
 ((opAt x.1 g.2.2.2.2.2.2.1).1 == (7 : Int)) = true) ∧
 (((opAt x.1 g.2.2.2.2.2.2.1).1 == (7 : Int) && !(decide ((opAt x.1 g.2.2.2.2.2.2.1).2.2.2.2.2.1 < (0 : Int)) || decide ((3 : Int) < (opAt x.1 g.2.2.2.2.2.2.1).2.2.2.2.2.1))) = true →
 ((opAt x.1 g.2.2.2.2.2.2.1).1 == (7 : Int) && !(decide ((opAt x.1 g.2.2.2.2.2.2.1).2.2.2.2.2.1 < (0 : Int)) || decide ((3 : Int) < (opAt x.1 g.2.2.2.2.2.2.1).2.2.2.2.2.1))) = true) ∧
 (((opAt x.1 g.2.2.2.2.2.2.1).1 == (7 : Int) && !(decide ((opAt x.1 g.2.2.2.2.2.2.1).2.2.2.2.2.1 < (0 : Int)) || decide ((3 : Int) < (opAt x.1 g.2.2.2.2.2.2.1).2.2.2.2.2.1))) = true →
 ((opAt x.1 g.2.2.2.2.2.2.1).1 == (7 : Int) && !(decide ((opAt x.1 g.2.2.2.2.2.2.1).2.2.2.2.2.1 < (0 : Int)) || decide ((3 : Int) < (opAt x.1 g.2.2.2.2.2.2.1).2.2.2.2.2.1))) = true ∧
 (0 : Int) ≤ (opAt x.1 g.2.2.2.2.2.2.1).2.2.2.2.2.1 ∧
 (opAt x.1 g.2.2.2.2.2.2.1).2.2.2.2.2.1 < (↑(4 : Nat) : Int)) ∧
 (((opAt x.1 g.2.2.2.2.2.2.1).1 == (7 : Int) && !(decide ((opAt x.1 g.2.2.2.2.2.2.1).2.2.2.2.2.1 < (0 : Int)) || decide ((3 : Int) < (opAt x.1 g.2.2.2.2.2.2.1).2.2.2.2.2.1))) = true →
 ((opAt x.1 g.2.2.2.2.2.2.1).1 == (7 : Int) && !(decide ((opAt x.1 g.2.2.2.2.2.2.1).2.2.2.2.2.1 < (0 : Int)) || decide ((3 : Int) < (opAt x.1 g.2.2.2.2.2.2.1).2.2.2.2.2.1))) = true) ∧
 (((opAt x.1 g.2.2.2.2.2.2.1).1 == (7 : Int)) = true →
 ((opAt x.1 g.2.2.2.2.2.2.1).1 == (7 : Int)) = true ∧
 ((decide ((opAt x.1 g.2.2.2.2.2.2.1).2.2.2.2.2.1 < (0 : Int)) || decide ((3 : Int) < (opAt x.1 g.2.2.2.2.2.2.1).2.2.2.2.2.1)) = false →
 ((opAt x.1 g.2.2.2.2.2.2.1).1 == (7 : Int) && !(decide ((opAt x.1 g.2.2.2.2.2.2.1).2.2.2.2.2.1 < (0 : Int)) || decide ((3 : Int) < (opAt x.1 g.2.2.2.2.2.2.1).2.2.2.2.2.1))) = true)) ∧
 (((opAt x.1 g.2.2.2.2.2.2.1).1 == (7 : Int)) = true →
 ((opAt x.1 g.2.2.2.2.2.2.1).1 == (7 : Int)) = true) ∧
 (((opAt x.1 g.2.2.2.2.2.2.1).1 == (7 : Int) && (decide ((opAt x.1 g.2.2.2.2.2.2.1).2.2.2.2.2.1 < (0 : Int)) || decide ((3 : Int) < (opAt x.1 g.2.2.2.2.2.2.1).2.2.2.2.2.1) || g.2.1.getD (opAt x.1 g.2.2.2.2.2.2.1).2.2.2.2.2.1.toNat false)) = true →
 (doV (g.1, g.2.1, g.2.2.1, g.2.2.2.1, g.2.2.2.2.1) (decide ((0 : Int) ≤ (opAt x.1 g.2.2.2.2.2.2.1).2.1) && decide ((opAt x.1 g.2.2.2.2.2.2.1).2.1 < (4 : Int)) && g.2.1.getD (opAt x.1 g.2.2.2.2.2.2.1).2.1.toNat false) g_1.1 ((opAt x.1 g.2.2.2.2.2.2.1).1, (opAt x.1 g.2.2.2.2.2.2.1).2.1, (opAt x.1 g.2.2.2.2.2.2.1).2.2.1, (opAt x.1 g.2.2.2.2.2.2.1).2.2.2.1, (opAt x.1 g.2.2.2.2.2.2.1).2.2.2.2.1, (opAt x.1 g.2.2.2.2.2.2.1).2.2.2.2.2.1, (opAt x.1 g.2.2.2.2.2.2.1).2.2.2.2.2.2) = ((g.1, g.2.1, g.2.2.1, g.2.2.2.1, g.2.2.2.2.1), (6 : Int), (0 : Int)) ∧
 True) ∧
 ((True ∧
 True) ∧
 (True ∧
 True) ∧
 (True ∧
 True) ∧
 True ∧
 True ∧
 True ∧
 True ∧
 True ∧
 (True ∧
 True) ∧
 x.1 = x.1 ∧
 RR (↑x.1.length : Int) ∧
 RR g.2.2.2.2.2.2.1 ∧
 True) ∧
 ((g.1 = g.1 ∧
 True) ∧
 (g.2.1 = g.2.1 ∧
 True) ∧
 g.2.2.1 = g.2.2.1 ∧
 RR g.2.2.2.1 ∧
 RR g.2.2.2.2.1 ∧
 (RR (6 : Int) ∧
 RR (0 : Int) ∧
 True) ∧
 (Z64 = Z64 ∧
 True) ∧
 (True ∧
 (True ∧
 True) ∧
 True) ∧
 RR g.2.2.2.2.2.1 ∧
 True) ∧
 True) ∧
 (((opAt x.1 g.2.2.2.2.2.2.1).1 == (7 : Int) && (decide ((opAt x.1 g.2.2.2.2.2.2.1).2.2.2.2.2.1 < (0 : Int)) || decide ((3 : Int) < (opAt x.1 g.2.2.2.2.2.2.1).2.2.2.2.2.1) || g.2.1.getD (opAt x.1 g.2.2.2.2.2.2.1).2.2.2.2.2.1.toNat false)) = false →
 (((opAt x.1 g.2.2.2.2.2.2.1).1 == (7 : Int)) = true →
 ((0 : Int) ≤ (opAt x.1 g.2.2.2.2.2.2.1).2.1 ∧
 (opAt x.1 g.2.2.2.2.2.2.1).2.1 < (↑(4 : Nat) : Int)) ∧
 ((0 : Int) ≤ (opAt x.1 g.2.2.2.2.2.2.1).2.2.2.2.2.1 ∧
 (opAt x.1 g.2.2.2.2.2.2.1).2.2.2.2.2.1 < (↑(4 : Nat) : Int)) ∧
 ((0 : Int) ≤ (opAt x.1 g.2.2.2.2.2.2.1).2.2.2.2.2.1 ∧
 (opAt x.1 g.2.2.2.2.2.2.1).2.2.2.2.2.1 < (↑(4 : Nat) : Int)) ∧
 (doV (g.1, g.2.1, g.2.2.1, g.2.2.2.1, g.2.2.2.2.1) (decide ((0 : Int) ≤ (opAt x.1 g.2.2.2.2.2.2.1).2.1) && decide ((opAt x.1 g.2.2.2.2.2.2.1).2.1 < (4 : Int)) && g.2.1.getD (opAt x.1 g.2.2.2.2.2.2.1).2.1.toNat false) g_1.1 ((opAt x.1 g.2.2.2.2.2.2.1).1, (opAt x.1 g.2.2.2.2.2.2.1).2.1, (opAt x.1 g.2.2.2.2.2.2.1).2.2.1, (opAt x.1 g.2.2.2.2.2.2.1).2.2.2.1, (opAt x.1 g.2.2.2.2.2.2.1).2.2.2.2.1, (opAt x.1 g.2.2.2.2.2.2.1).2.2.2.2.2.1, (opAt x.1 g.2.2.2.2.2.2.1).2.2.2.2.2.2) = ((g.1.set (opAt x.1 g.2.2.2.2.2.2.1).2.2.2.2.2.1.toNat (g.1.getD (opAt x.1 g.2.2.2.2.2.2.1).2.1.toNat Z16), g.2.1.set (opAt x.1 g.2.2.2.2.2.2.1).2.2.2.2.2.1.toNat true, g.2.2.1, g.2.2.2.1, g.2.2.2.2.1), (0 : Int), (opAt x.1 g.2.2.2.2.2.2.1).2.2.2.2.2.1) ∧
 True) ∧
 ((True ∧
 True) ∧
 (True ∧
 True) ∧
 (True ∧
 True) ∧
 True ∧
 True ∧
 True ∧
 True ∧
 True ∧
 (True ∧
 True) ∧
 x.1 = x.1 ∧
 RR (↑x.1.length : Int) ∧
 RR g.2.2.2.2.2.2.1 ∧
 True) ∧
 ((RR (g.1.set (opAt x.1 g.2.2.2.2.2.2.1).2.2.2.2.2.1.toNat (g.1.getD (opAt x.1 g.2.2.2.2.2.2.1).2.1.toNat Z16)) ∧
 True) ∧
 (RR (g.2.1.set (opAt x.1 g.2.2.2.2.2.2.1).2.2.2.2.2.1.toNat true) ∧
 True) ∧
 g.2.2.1 = g.2.2.1 ∧
 RR g.2.2.2.1 ∧
 RR g.2.2.2.2.1 ∧
 (RR (0 : Int) ∧
 RR ((opAt x.1 g.2.2.2.2.2.2.1).2.2.2.2.2.1) ∧
 True) ∧
 (Z64 = Z64 ∧
 True) ∧
 (True ∧
 (True ∧
 True) ∧
 True) ∧
 RR g.2.2.2.2.2.1 ∧
 True) ∧
 True) ∧
 (((opAt x.1 g.2.2.2.2.2.2.1).1 == (7 : Int)) = false →
 (((opAt x.1 g.2.2.2.2.2.2.1).1 != (1 : Int)) = true →
 ((opAt x.1 g.2.2.2.2.2.2.1).1 != (1 : Int)) = true) ∧
 (((opAt x.1 g.2.2.2.2.2.2.1).1 != (1 : Int)) = true →
 ((opAt x.1 g.2.2.2.2.2.2.1).1 != (1 : Int)) = true) ∧
 (((opAt x.1 g.2.2.2.2.2.2.1).1 != (1 : Int) && decide (g_1.1 < (0 : Int))) = true →
 (doV (g.1, g.2.1, g.2.2.1, g.2.2.2.1, g.2.2.2.2.1) (decide ((0 : Int) ≤ (opAt x.1 g.2.2.2.2.2.2.1).2.1) && decide ((opAt x.1 g.2.2.2.2.2.2.1).2.1 < (4 : Int)) && g.2.1.getD (opAt x.1 g.2.2.2.2.2.2.1).2.1.toNat false) g_1.1 ((opAt x.1 g.2.2.2.2.2.2.1).1, (opAt x.1 g.2.2.2.2.2.2.1).2.1, (opAt x.1 g.2.2.2.2.2.2.1).2.2.1, (opAt x.1 g.2.2.2.2.2.2.1).2.2.2.1, (opAt x.1 g.2.2.2.2.2.2.1).2.2.2.2.1, (opAt x.1 g.2.2.2.2.2.2.1).2.2.2.2.2.1, (opAt x.1 g.2.2.2.2.2.2.1).2.2.2.2.2.2) = ((g.1, g.2.1, g.2.2.1, g.2.2.2.1, g.2.2.2.2.1), (3 : Int), (0 : Int)) ∧
 True) ∧
 ((True ∧
 True) ∧
 (True ∧
 True) ∧
 (True ∧
 True) ∧
 True ∧
 True ∧
 True ∧
 True ∧
 True ∧
 (True ∧
 True) ∧
 x.1 = x.1 ∧
 RR (↑x.1.length : Int) ∧
 RR g.2.2.2.2.2.2.1 ∧
 True) ∧
 ((g.1 = g.1 ∧
 True) ∧
 (g.2.1 = g.2.1 ∧
 True) ∧
 g.2.2.1 = g.2.2.1 ∧
 RR g.2.2.2.1 ∧
 RR g.2.2.2.2.1 ∧
 (RR (3 : Int) ∧
 RR (0 : Int) ∧
 True) ∧
 (Z64 = Z64 ∧
 True) ∧
 (True ∧
 (True ∧
 True) ∧
 True) ∧
 RR g.2.2.2.2.2.1 ∧
 True) ∧
 True) ∧
 (((opAt x.1 g.2.2.2.2.2.2.1).1 != (1 : Int) && decide (g_1.1 < (0 : Int))) = false →
 ((!(opAt x.1 g.2.2.2.2.2.2.1).1 == (1 : Int)) = true →
 (!(opAt x.1 g.2.2.2.2.2.2.1).1 == (1 : Int)) = true) ∧
 ((!(opAt x.1 g.2.2.2.2.2.2.1).1 == (1 : Int)) = true →
 (!(opAt x.1 g.2.2.2.2.2.2.1).1 == (1 : Int)) = true) ∧
 (((opAt x.1 g.2.2.2.2.2.2.1).1 == (1 : Int)) = false →
 (!(opAt x.1 g.2.2.2.2.2.2.1).1 == (1 : Int)) = true) ∧
 (((opAt x.1 g.2.2.2.2.2.2.1).1 == (1 : Int) || (opAt x.1 g.2.2.2.2.2.2.1).1 == (2 : Int)) = true →
 (((opAt x.1 g.2.2.2.2.2.2.1).1 == (1 : Int) || (opAt x.1 g.2.2.2.2.2.2.1).1 == (2 : Int)) = true ∧
 ((opAt x.1 g.2.2.2.2.2.2.1).1 == (1 : Int) || (opAt x.1 g.2.2.2.2.2.2.1).1 == (2 : Int)) = true) ∧
 Holds ((0 : Int) ≤ (opAt x.1 g.2.2.2.2.2.2.1).2.1 ∧
 (opAt x.1 g.2.2.2.2.2.2.1).2.1 < (4 : Int)) ∧
 ((RR ((opAt x.1 g.2.2.2.2.2.2.1).2.1) ∧
 (True ∧
 True) ∧
 True) ∧
 (g.1 = g.1 ∧
 True) ∧
 True) ∧
 (decide (idx (row g.1 (opAt x.1 g.2.2.2.2.2.2.1).2.1) (0 : Int) < (0 : Int)) = true →
 (doV (g.1, g.2.1, g.2.2.1, g.2.2.2.1, g.2.2.2.2.1) (decide ((0 : Int) ≤ (opAt x.1 g.2.2.2.2.2.2.1).2.1) && decide ((opAt x.1 g.2.2.2.2.2.2.1).2.1 < (4 : Int)) && g.2.1.getD (opAt x.1 g.2.2.2.2.2.2.1).2.1.toNat false) g_1.1 ((opAt x.1 g.2.2.2.2.2.2.1).1, (opAt x.1 g.2.2.2.2.2.2.1).2.1, (opAt x.1 g.2.2.2.2.2.2.1).2.2.1, (opAt x.1 g.2.2.2.2.2.2.1).2.2.2.1, (opAt x.1 g.2.2.2.2.2.2.1).2.2.2.2.1, (opAt x.1 g.2.2.2.2.2.2.1).2.2.2.2.2.1, (opAt x.1 g.2.2.2.2.2.2.1).2.2.2.2.2.2) = ((g.1, g.2.1, g.2.2.1, g.2.2.2.1, g.2.2.2.2.1), (4 : Int), (0 : Int)) ∧
 True) ∧
 ((True ∧
 True) ∧
 (True ∧
 True) ∧
 (True ∧
 True) ∧
 True ∧
 True ∧
 True ∧
 True ∧
 True ∧
 (True ∧
 True) ∧
 x.1 = x.1 ∧
 RR (↑x.1.length : Int) ∧
 RR g.2.2.2.2.2.2.1 ∧
 True) ∧
 ((g.1 = g.1 ∧
 True) ∧
 (g.2.1 = g.2.1 ∧
 True) ∧
 g.2.2.1 = g.2.2.1 ∧
 RR g.2.2.2.1 ∧
 RR g.2.2.2.2.1 ∧
 (RR (4 : Int) ∧
 RR (0 : Int) ∧
 True) ∧
 (Z64 = Z64 ∧
 True) ∧
 (True ∧
 (True ∧
 True) ∧
 True) ∧
 RR g.2.2.2.2.2.1 ∧
 True) ∧
 True) ∧
 (decide (idx (row g.1 (opAt x.1 g.2.2.2.2.2.2.1).2.1) (0 : Int) < (0 : Int)) = false →
 (((opAt x.1 g.2.2.2.2.2.2.1).1 == (1 : Int)) = true →
 (g.2.2.1.length + (((0 : Int) :: ([] : List Int)).set (0 : Nat) (opAt x.1 g.2.2.2.2.2.2.1).2.2.1).length ≤ (9223372036854775807 : Nat) ∧
 (g.2.2.1.length + (((0 : Int) :: ([] : List Int)).set (0 : Nat) (opAt x.1 g.2.2.2.2.2.2.1).2.2.1).length + (g.2.2.1.length + (((0 : Int) :: ([] : List Int)).set (0 : Nat) (opAt x.1 g.2.2.2.2.2.2.1).2.2.1).length) / (4 : Nat) + (192 : Nat)) * (8 : Nat) ≤ (281474976710656 : Nat)) ∧
 (g.2.2.2.1.length + (((0 : Int) :: ([] : List Int)).set (0 : Nat) (opAt x.1 g.2.2.2.2.2.2.1).2.2.2.1).length ≤ (9223372036854775807 : Nat) ∧
 (g.2.2.2.1.length + (((0 : Int) :: ([] : List Int)).set (0 : Nat) (opAt x.1 g.2.2.2.2.2.2.1).2.2.2.1).length + (g.2.2.2.1.length + (((0 : Int) :: ([] : List Int)).set (0 : Nat) (opAt x.1 g.2.2.2.2.2.2.1).2.2.2.1).length) / (4 : Nat) + (192 : Nat)) * (8 : Nat) ≤ (281474976710656 : Nat)) ∧
 (g.2.2.2.2.1.length + (((0 : Int) :: ([] : List Int)).set (0 : Nat) (0 : Int)).length ≤ (9223372036854775807 : Nat) ∧
 (g.2.2.2.2.1.length + (((0 : Int) :: ([] : List Int)).set (0 : Nat) (0 : Int)).length + (g.2.2.2.2.1.length + (((0 : Int) :: ([] : List Int)).set (0 : Nat) (0 : Int)).length) / (4 : Nat) + (192 : Nat)) * (8 : Nat) ≤ (281474976710656 : Nat)) ∧
 Holds ((0 : Int) ≤ (opAt x.1 g.2.2.2.2.2.2.1).2.1 ∧
 (opAt x.1 g.2.2.2.2.2.2.1).2.1 < (4 : Int)) ∧
 ((RR ((opAt x.1 g.2.2.2.2.2.2.1).2.1) ∧
 (True ∧
 True) ∧
 True) ∧
 (g.1 = g.1 ∧
 True) ∧
 True) ∧
 ((0 : Int) ≤ (opAt x.1 g.2.2.2.2.2.2.1).2.1 ∧
 (opAt x.1 g.2.2.2.2.2.2.1).2.1 < (↑(4 : Nat) : Int)) ∧
 ((0 : Int) ≤ idx (row g.1 (opAt x.1 g.2.2.2.2.2.2.1).2.1) (0 : Int) ∧
 idx (row g.1 (opAt x.1 g.2.2.2.2.2.2.1).2.1) (0 : Int) < (↑(16 : Nat) : Int)) ∧
 (doV (g.1, g.2.1, g.2.2.1, g.2.2.2.1, g.2.2.2.2.1) (decide ((0 : Int) ≤ (opAt x.1 g.2.2.2.2.2.2.1).2.1) && decide ((opAt x.1 g.2.2.2.2.2.2.1).2.1 < (4 : Int)) && g.2.1.getD (opAt x.1 g.2.2.2.2.2.2.1).2.1.toNat false) g_1.1 ((opAt x.1 g.2.2.2.2.2.2.1).1, (opAt x.1 g.2.2.2.2.2.2.1).2.1, (opAt x.1 g.2.2.2.2.2.2.1).2.2.1, (opAt x.1 g.2.2.2.2.2.2.1).2.2.2.1, (opAt x.1 g.2.2.2.2.2.2.1).2.2.2.2.1, (opAt x.1 g.2.2.2.2.2.2.1).2.2.2.2.2.1, (opAt x.1 g.2.2.2.2.2.2.1).2.2.2.2.2.2) = ((g.1.set (opAt x.1 g.2.2.2.2.2.2.1).2.1.toNat ((g.1.getD (opAt x.1 g.2.2.2.2.2.2.1).2.1.toNat Z16).set (idx (row g.1 (opAt x.1 g.2.2.2.2.2.2.1).2.1) (0 : Int)).toNat (↑(g.2.2.1 ++ ((0 : Int) :: ([] : List Int)).set (0 : Nat) (opAt x.1 g.2.2.2.2.2.2.1).2.2.1).length : Int)), g.2.1, g.2.2.1 ++ ((0 : Int) :: ([] : List Int)).set (0 : Nat) (opAt x.1 g.2.2.2.2.2.2.1).2.2.1, g.2.2.2.1 ++ ((0 : Int) :: ([] : List Int)).set (0 : Nat) (opAt x.1 g.2.2.2.2.2.2.1).2.2.2.1, g.2.2.2.2.1 ++ ((0 : Int) :: ([] : List Int)).set (0 : Nat) (0 : Int)), (0 : Int), idx (row g.1 (opAt x.1 g.2.2.2.2.2.2.1).2.1) (0 : Int)) ∧
 True) ∧
 ((True ∧
 True) ∧
 (True ∧
 True) ∧
 (True ∧
 True) ∧
 True ∧
 True ∧
 True ∧
 True ∧
 True ∧
 (True ∧
 True) ∧
 x.1 = x.1 ∧
 RR (↑x.1.length : Int) ∧
 RR g.2.2.2.2.2.2.1 ∧
 True) ∧
 ((g.1.set (opAt x.1 g.2.2.2.2.2.2.1).2.1.toNat ((g.1.getD (opAt x.1 g.2.2.2.2.2.2.1).2.1.toNat Z16).set (idx (row g.1 (opAt x.1 g.2.2.2.2.2.2.1).2.1) (0 : Int)).toNat (↑(g.2.2.1 ++ ((0 : Int) :: ([] : List Int)).set (0 : Nat) (opAt x.1 g.2.2.2.2.2.2.1).2.2.1).length : Int)) = g.1.set (opAt x.1 g.2.2.2.2.2.2.1).2.1.toNat ((g.1.getD (opAt x.1 g.2.2.2.2.2.2.1).2.1.toNat Z16).set (idx (row g.1 (opAt x.1 g.2.2.2.2.2.2.1).2.1) (0 : Int)).toNat (↑(g.2.2.1 ++ ((0 : Int) :: ([] : List Int)).set (0 : Nat) (opAt x.1 g.2.2.2.2.2.2.1).2.2.1).length : Int)) ∧
 True) ∧
 (g.2.1 = g.2.1 ∧
 True) ∧
 g.2.2.1 ++ ((0 : Int) :: ([] : List Int)).set (0 : Nat) (opAt x.1 g.2.2.2.2.2.2.1).2.2.1 = g.2.2.1 ++ ((0 : Int) :: ([] : List Int)).set (0 : Nat) (opAt x.1 g.2.2.2.2.2.2.1).2.2.1 ∧
 g.2.2.2.1 ++ ((0 : Int) :: ([] : List Int)).set (0 : Nat) (opAt x.1 g.2.2.2.2.2.2.1).2.2.2.1 = g.2.2.2.1 ++ ((0 : Int) :: ([] : List Int)).set (0 : Nat) (opAt x.1 g.2.2.2.2.2.2.1).2.2.2.1 ∧
 g.2.2.2.2.1 ++ ((0 : Int) :: ([] : List Int)).set (0 : Nat) (0 : Int) = g.2.2.2.2.1 ++ ((0 : Int) :: ([] : List Int)).set (0 : Nat) (0 : Int) ∧
 (RR (0 : Int) ∧
 RR (idx (row g.1 (opAt x.1 g.2.2.2.2.2.2.1).2.1) (0 : Int)) ∧
 True) ∧
 (Z64 = Z64 ∧
 True) ∧
 (True ∧
 (True ∧
 True) ∧
 True) ∧
 RR g.2.2.2.2.2.1 ∧
 True) ∧
 True) ∧
 (((opAt x.1 g.2.2.2.2.2.2.1).1 == (1 : Int)) = false →
 (((opAt x.1 g.2.2.2.2.2.2.1).1 == (2 : Int)) = true →
 Holds ((0 : Int) ≤ (opAt x.1 g.2.2.2.2.2.2.1).2.1 ∧
 (opAt x.1 g.2.2.2.2.2.2.1).2.1 < (4 : Int)) ∧
 ((RR ((opAt x.1 g.2.2.2.2.2.2.1).2.1) ∧
 (True ∧
 True) ∧
 True) ∧
 (g.1 = g.1 ∧
 True) ∧
 True) ∧
 ((-9223372036854775808 : Int) ≤ g_1.1 + (1 : Int) ∧
 g_1.1 + (1 : Int) ≤ (9223372036854775807 : Int)) ∧
 ((0 : Int) ≤ (opAt x.1 g.2.2.2.2.2.2.1).2.1 ∧
 (opAt x.1 g.2.2.2.2.2.2.1).2.1 < (↑(4 : Nat) : Int)) ∧
 ((0 : Int) ≤ idx (row g.1 (opAt x.1 g.2.2.2.2.2.2.1).2.1) (0 : Int) ∧
 idx (row g.1 (opAt x.1 g.2.2.2.2.2.2.1).2.1) (0 : Int) < (↑(16 : Nat) : Int)) ∧
 (doV (g.1, g.2.1, g.2.2.1, g.2.2.2.1, g.2.2.2.2.1) (decide ((0 : Int) ≤ (opAt x.1 g.2.2.2.2.2.2.1).2.1) && decide ((opAt x.1 g.2.2.2.2.2.2.1).2.1 < (4 : Int)) && g.2.1.getD (opAt x.1 g.2.2.2.2.2.2.1).2.1.toNat false) g_1.1 ((opAt x.1 g.2.2.2.2.2.2.1).1, (opAt x.1 g.2.2.2.2.2.2.1).2.1, (opAt x.1 g.2.2.2.2.2.2.1).2.2.1, (opAt x.1 g.2.2.2.2.2.2.1).2.2.2.1, (opAt x.1 g.2.2.2.2.2.2.1).2.2.2.2.1, (opAt x.1 g.2.2.2.2.2.2.1).2.2.2.2.2.1, (opAt x.1 g.2.2.2.2.2.2.1).2.2.2.2.2.2) = ((g.1.set (opAt x.1 g.2.2.2.2.2.2.1).2.1.toNat ((g.1.getD (opAt x.1 g.2.2.2.2.2.2.1).2.1.toNat Z16).set (idx (row g.1 (opAt x.1 g.2.2.2.2.2.2.1).2.1) (0 : Int)).toNat (g_1.1 + (1 : Int))), g.2.1, g.2.2.1, g.2.2.2.1, g.2.2.2.2.1), (0 : Int), idx (row g.1 (opAt x.1 g.2.2.2.2.2.2.1).2.1) (0 : Int)) ∧
 True) ∧
 ((True ∧
 True) ∧
 (True ∧
 True) ∧
 (True ∧
 True) ∧
 True ∧
 True ∧
 True ∧
 True ∧
 True ∧
 (True ∧
 True) ∧
 x.1 = x.1 ∧
 RR (↑x.1.length : Int) ∧
 RR g.2.2.2.2.2.2.1 ∧
 True) ∧
 ((RR (g.1.set (opAt x.1 g.2.2.2.2.2.2.1).2.1.toNat ((g.1.getD (opAt x.1 g.2.2.2.2.2.2.1).2.1.toNat Z16).set (idx (row g.1 (opAt x.1 g.2.2.2.2.2.2.1).2.1) (0 : Int)).toNat (g_1.1 + (1 : Int)))) ∧
 True) ∧
 (g.2.1 = g.2.1 ∧
 True) ∧
 g.2.2.1 = g.2.2.1 ∧
 RR g.2.2.2.1 ∧
 RR g.2.2.2.2.1 ∧
 (RR (0 : Int) ∧
 RR (idx (row g.1 (opAt x.1 g.2.2.2.2.2.2.1).2.1) (0 : Int)) ∧
 True) ∧
 (Z64 = Z64 ∧
 True) ∧
 (True ∧
 (True ∧
 True) ∧
 True) ∧
 RR g.2.2.2.2.2.1 ∧
 True) ∧
 True) ∧
 (((opAt x.1 g.2.2.2.2.2.2.1).1 == (2 : Int)) = false →
 (((opAt x.1 g.2.2.2.2.2.2.1).1 == (3 : Int)) = true →
 ((opAt x.1 g.2.2.2.2.2.2.1).1 == (3 : Int)) = true) ∧
 (((opAt x.1 g.2.2.2.2.2.2.1).1 == (3 : Int)) = true →
 ((opAt x.1 g.2.2.2.2.2.2.1).1 == (3 : Int)) = true) ∧
 (((opAt x.1 g.2.2.2.2.2.2.1).1 == (3 : Int)) = true →
 ((opAt x.1 g.2.2.2.2.2.2.1).1 == (3 : Int)) = true) ∧
 (((opAt x.1 g.2.2.2.2.2.2.1).1 == (3 : Int) && !decide ((opAt x.1 g.2.2.2.2.2.2.1).2.2.2.2.2.1 < (0 : Int))) = true →
 ((opAt x.1 g.2.2.2.2.2.2.1).1 == (3 : Int) && !decide ((opAt x.1 g.2.2.2.2.2.2.1).2.2.2.2.2.1 < (0 : Int))) = true) ∧
 (((opAt x.1 g.2.2.2.2.2.2.1).1 == (3 : Int) && !decide ((opAt x.1 g.2.2.2.2.2.2.1).2.2.2.2.2.1 < (0 : Int))) = true →
 ((opAt x.1 g.2.2.2.2.2.2.1).1 == (3 : Int) && !decide ((opAt x.1 g.2.2.2.2.2.2.1).2.2.2.2.2.1 < (0 : Int))) = true) ∧
 (((opAt x.1 g.2.2.2.2.2.2.1).1 == (3 : Int)) = true →
 ((opAt x.1 g.2.2.2.2.2.2.1).1 == (3 : Int)) = true ∧
 (decide ((opAt x.1 g.2.2.2.2.2.2.1).2.2.2.2.2.1 < (0 : Int)) = false →
 ((opAt x.1 g.2.2.2.2.2.2.1).1 == (3 : Int) && !decide ((opAt x.1 g.2.2.2.2.2.2.1).2.2.2.2.2.1 < (0 : Int))) = true)) ∧
 (((opAt x.1 g.2.2.2.2.2.2.1).1 == (3 : Int)) = true →
 ((opAt x.1 g.2.2.2.2.2.2.1).1 == (3 : Int)) = true) ∧
 (((opAt x.1 g.2.2.2.2.2.2.1).1 == (3 : Int) && (decide ((opAt x.1 g.2.2.2.2.2.2.1).2.2.2.2.2.1 < (0 : Int)) || decide ((15 : Int) < (opAt x.1 g.2.2.2.2.2.2.1).2.2.2.2.2.1))) = true →
 (doV (g.1, g.2.1, g.2.2.1, g.2.2.2.1, g.2.2.2.2.1) (decide ((0 : Int) ≤ (opAt x.1 g.2.2.2.2.2.2.1).2.1) && decide ((opAt x.1 g.2.2.2.2.2.2.1).2.1 < (4 : Int)) && g.2.1.getD (opAt x.1 g.2.2.2.2.2.2.1).2.1.toNat false) g_1.1 ((opAt x.1 g.2.2.2.2.2.2.1).1, (opAt x.1 g.2.2.2.2.2.2.1).2.1, (opAt x.1 g.2.2.2.2.2.2.1).2.2.1, (opAt x.1 g.2.2.2.2.2.2.1).2.2.2.1, (opAt x.1 g.2.2.2.2.2.2.1).2.2.2.2.1, (opAt x.1 g.2.2.2.2.2.2.1).2.2.2.2.2.1, (opAt x.1 g.2.2.2.2.2.2.1).2.2.2.2.2.2) = ((g.1, g.2.1, g.2.2.1, g.2.2.2.1, g.2.2.2.2.1), (2 : Int), (0 : Int)) ∧
 True) ∧
 ((True ∧
 True) ∧
 (True ∧
 True) ∧
 (True ∧
 True) ∧
 True ∧
 True ∧
 True ∧
 True ∧
 True ∧
 (True ∧
 True) ∧
 x.1 = x.1 ∧
 RR (↑x.1.length : Int) ∧
 RR g.2.2.2.2.2.2.1 ∧
 True) ∧
 ((g.1 = g.1 ∧
 True) ∧
 (g.2.1 = g.2.1 ∧
 True) ∧
 g.2.2.1 = g.2.2.1 ∧
 RR g.2.2.2.1 ∧
 RR g.2.2.2.2.1 ∧
 (RR (2 : Int) ∧
 RR (0 : Int) ∧
 True) ∧
 (Z64 = Z64 ∧
 True) ∧
 (True ∧
 (True ∧
 True) ∧
 True) ∧
 RR g.2.2.2.2.2.1 ∧
 True) ∧
 True) ∧
 (((opAt x.1 g.2.2.2.2.2.2.1).1 == (3 : Int) && (decide ((opAt x.1 g.2.2.2.2.2.2.1).2.2.2.2.2.1 < (0 : Int)) || decide ((15 : Int) < (opAt x.1 g.2.2.2.2.2.2.1).2.2.2.2.2.1))) = false →
 (((opAt x.1 g.2.2.2.2.2.2.1).1 == (6 : Int)) = true →
 ((opAt x.1 g.2.2.2.2.2.2.1).1 == (6 : Int)) = true) ∧
 (((opAt x.1 g.2.2.2.2.2.2.1).1 == (6 : Int)) = true →
 ((opAt x.1 g.2.2.2.2.2.2.1).1 == (6 : Int)) = true) ∧
 (((opAt x.1 g.2.2.2.2.2.2.1).1 == (6 : Int)) = true →
 ((opAt x.1 g.2.2.2.2.2.2.1).1 == (6 : Int)) = true) ∧
 (((opAt x.1 g.2.2.2.2.2.2.1).1 == (6 : Int) && !decide ((opAt x.1 g.2.2.2.2.2.2.1).2.2.2.2.2.2 < (0 : Int))) = true →
 ((opAt x.1 g.2.2.2.2.2.2.1).1 == (6 : Int) && !decide ((opAt x.1 g.2.2.2.2.2.2.1).2.2.2.2.2.2 < (0 : Int))) = true) ∧
 (((opAt x.1 g.2.2.2.2.2.2.1).1 == (6 : Int) && !decide ((opAt x.1 g.2.2.2.2.2.2.1).2.2.2.2.2.2 < (0 : Int))) = true →
 ((opAt x.1 g.2.2.2.2.2.2.1).1 == (6 : Int) && !decide ((opAt x.1 g.2.2.2.2.2.2.1).2.2.2.2.2.2 < (0 : Int))) = true) ∧
 (((opAt x.1 g.2.2.2.2.2.2.1).1 == (6 : Int)) = true →
 ((opAt x.1 g.2.2.2.2.2.2.1).1 == (6 : Int)) = true ∧
 (decide ((opAt x.1 g.2.2.2.2.2.2.1).2.2.2.2.2.2 < (0 : Int)) = false →
 ((opAt x.1 g.2.2.2.2.2.2.1).1 == (6 : Int) && !decide ((opAt x.1 g.2.2.2.2.2.2.1).2.2.2.2.2.2 < (0 : Int))) = true)) ∧
 (((opAt x.1 g.2.2.2.2.2.2.1).1 == (6 : Int)) = true →
 ((opAt x.1 g.2.2.2.2.2.2.1).1 == (6 : Int)) = true) ∧
 (((opAt x.1 g.2.2.2.2.2.2.1).1 == (6 : Int) && (decide ((opAt x.1 g.2.2.2.2.2.2.1).2.2.2.2.2.2 < (0 : Int)) || decide ((1099511627776 : Int) < (opAt x.1 g.2.2.2.2.2.2.1).2.2.2.2.2.2))) = true →
 (doV (g.1, g.2.1, g.2.2.1, g.2.2.2.1, g.2.2.2.2.1) (decide ((0 : Int) ≤ (opAt x.1 g.2.2.2.2.2.2.1).2.1) && decide ((opAt x.1 g.2.2.2.2.2.2.1).2.1 < (4 : Int)) && g.2.1.getD (opAt x.1 g.2.2.2.2.2.2.1).2.1.toNat false) g_1.1 ((opAt x.1 g.2.2.2.2.2.2.1).1, (opAt x.1 g.2.2.2.2.2.2.1).2.1, (opAt x.1 g.2.2.2.2.2.2.1).2.2.1, (opAt x.1 g.2.2.2.2.2.2.1).2.2.2.1, (opAt x.1 g.2.2.2.2.2.2.1).2.2.2.2.1, (opAt x.1 g.2.2.2.2.2.2.1).2.2.2.2.2.1, (opAt x.1 g.2.2.2.2.2.2.1).2.2.2.2.2.2) = ((g.1, g.2.1, g.2.2.1, g.2.2.2.1, g.2.2.2.2.1), (2 : Int), (0 : Int)) ∧
 True) ∧
 ((True ∧
 True) ∧
 (True ∧
 True) ∧
 (True ∧
 True) ∧
 True ∧
 True ∧
 True ∧
 True ∧
 True ∧
 (True ∧
 True) ∧
 x.1 = x.1 ∧
 RR (↑x.1.length : Int) ∧
 RR g.2.2.2.2.2.2.1 ∧
 True) ∧
 ((g.1 = g.1 ∧
 True) ∧
 (g.2.1 = g.2.1 ∧
 True) ∧
 g.2.2.1 = g.2.2.1 ∧
 RR g.2.2.2.1 ∧
 RR g.2.2.2.2.1 ∧
 (RR (2 : Int) ∧
 RR (0 : Int) ∧
 True) ∧
 (Z64 = Z64 ∧
 True) ∧
 (True ∧
 (True ∧
 True) ∧
 True) ∧
 RR g.2.2.2.2.2.1 ∧
 True) ∧
 True) ∧
 (((opAt x.1 g.2.2.2.2.2.2.1).1 == (6 : Int) && (decide ((opAt x.1 g.2.2.2.2.2.2.1).2.2.2.2.2.2 < (0 : Int)) || decide ((1099511627776 : Int) < (opAt x.1 g.2.2.2.2.2.2.1).2.2.2.2.2.2))) = false →
 (((opAt x.1 g.2.2.2.2.2.2.1).1 == (5 : Int)) = true →
 ((opAt x.1 g.2.2.2.2.2.2.1).1 == (5 : Int)) = true) ∧
 (((opAt x.1 g.2.2.2.2.2.2.1).1 == (5 : Int)) = true →
 ((opAt x.1 g.2.2.2.2.2.2.1).1 == (5 : Int)) = true) ∧
 (((opAt x.1 g.2.2.2.2.2.2.1).1 == (5 : Int)) = true →
 ((opAt x.1 g.2.2.2.2.2.2.1).1 == (5 : Int)) = true) ∧
 (((opAt x.1 g.2.2.2.2.2.2.1).1 == (5 : Int) && decide ((opAt x.1 g.2.2.2.2.2.2.1).2.2.2.2.2.2 < (1 : Int))) = true →
 (doV (g.1, g.2.1, g.2.2.1, g.2.2.2.1, g.2.2.2.2.1) (decide ((0 : Int) ≤ (opAt x.1 g.2.2.2.2.2.2.1).2.1) && decide ((opAt x.1 g.2.2.2.2.2.2.1).2.1 < (4 : Int)) && g.2.1.getD (opAt x.1 g.2.2.2.2.2.2.1).2.1.toNat false) g_1.1 ((opAt x.1 g.2.2.2.2.2.2.1).1, (opAt x.1 g.2.2.2.2.2.2.1).2.1, (opAt x.1 g.2.2.2.2.2.2.1).2.2.1, (opAt x.1 g.2.2.2.2.2.2.1).2.2.2.1, (opAt x.1 g.2.2.2.2.2.2.1).2.2.2.2.1, (opAt x.1 g.2.2.2.2.2.2.1).2.2.2.2.2.1, (opAt x.1 g.2.2.2.2.2.2.1).2.2.2.2.2.2) = ((g.1, g.2.1, g.2.2.1, g.2.2.2.1, g.2.2.2.2.1), (2 : Int), (0 : Int)) ∧
 True) ∧
 ((True ∧
 True) ∧
 (True ∧
 True) ∧
 (True ∧
 True) ∧
 True ∧
 True ∧
 True ∧
 True ∧
 True ∧
 (True ∧
 True) ∧
 x.1 = x.1 ∧
 RR (↑x.1.length : Int) ∧
 RR g.2.2.2.2.2.2.1 ∧
 True) ∧
 ((g.1 = g.1 ∧
 True) ∧
 (g.2.1 = g.2.1 ∧
 True) ∧
 g.2.2.1 = g.2.2.1 ∧
 RR g.2.2.2.1 ∧
 RR g.2.2.2.2.1 ∧
 (RR (2 : Int) ∧
 RR (0 : Int) ∧
 True) ∧
 (Z64 = Z64 ∧
 True) ∧
 (True ∧
 (True ∧
 True) ∧
 True) ∧
 RR g.2.2.2.2.2.1 ∧
 True) ∧
 True) ∧
 (((opAt x.1 g.2.2.2.2.2.2.1).1 == (5 : Int) && decide ((opAt x.1 g.2.2.2.2.2.2.1).2.2.2.2.2.2 < (1 : Int))) = false →
 (((opAt x.1 g.2.2.2.2.2.2.1).1 == (3 : Int)) = true →
 ((-9223372036854775808 : Int) ≤ g_1.1 + (1 : Int) ∧
 g_1.1 + (1 : Int) ≤ (9223372036854775807 : Int)) ∧
 ((0 : Int) ≤ (opAt x.1 g.2.2.2.2.2.2.1).2.1 ∧
 (opAt x.1 g.2.2.2.2.2.2.1).2.1 < (↑(4 : Nat) : Int)) ∧
 ((0 : Int) ≤ (opAt x.1 g.2.2.2.2.2.2.1).2.2.2.2.2.1 ∧
 (opAt x.1 g.2.2.2.2.2.2.1).2.2.2.2.2.1 < (↑(16 : Nat) : Int)) ∧
 (doV (g.1, g.2.1, g.2.2.1, g.2.2.2.1, g.2.2.2.2.1) (decide ((0 : Int) ≤ (opAt x.1 g.2.2.2.2.2.2.1).2.1) && decide ((opAt x.1 g.2.2.2.2.2.2.1).2.1 < (4 : Int)) && g.2.1.getD (opAt x.1 g.2.2.2.2.2.2.1).2.1.toNat false) g_1.1 ((opAt x.1 g.2.2.2.2.2.2.1).1, (opAt x.1 g.2.2.2.2.2.2.1).2.1, (opAt x.1 g.2.2.2.2.2.2.1).2.2.1, (opAt x.1 g.2.2.2.2.2.2.1).2.2.2.1, (opAt x.1 g.2.2.2.2.2.2.1).2.2.2.2.1, (opAt x.1 g.2.2.2.2.2.2.1).2.2.2.2.2.1, (opAt x.1 g.2.2.2.2.2.2.1).2.2.2.2.2.2) = ((g.1.set (opAt x.1 g.2.2.2.2.2.2.1).2.1.toNat ((g.1.getD (opAt x.1 g.2.2.2.2.2.2.1).2.1.toNat Z16).set (opAt x.1 g.2.2.2.2.2.2.1).2.2.2.2.2.1.toNat (g_1.1 + (1 : Int))), g.2.1, g.2.2.1, g.2.2.2.1, g.2.2.2.2.1), (0 : Int), (opAt x.1 g.2.2.2.2.2.2.1).2.2.2.2.2.1) ∧
 True) ∧
 ((True ∧
 True) ∧
 (True ∧
 True) ∧
 (True ∧
 True) ∧
 True ∧
 True ∧
 True ∧
 True ∧
 True ∧
 (True ∧
 True) ∧
 x.1 = x.1 ∧
 RR (↑x.1.length : Int) ∧
 RR g.2.2.2.2.2.2.1 ∧
 True) ∧
 ((RR (g.1.set (opAt x.1 g.2.2.2.2.2.2.1).2.1.toNat ((g.1.getD (opAt x.1 g.2.2.2.2.2.2.1).2.1.toNat Z16).set (opAt x.1 g.2.2.2.2.2.2.1).2.2.2.2.2.1.toNat (g_1.1 + (1 : Int)))) ∧
 True) ∧
 (g.2.1 = g.2.1 ∧
 True) ∧
 g.2.2.1 = g.2.2.1 ∧
 RR g.2.2.2.1 ∧
 RR g.2.2.2.2.1 ∧
 (RR (0 : Int) ∧
 RR ((opAt x.1 g.2.2.2.2.2.2.1).2.2.2.2.2.1) ∧
 True) ∧
 (Z64 = Z64 ∧
 True) ∧
 (True ∧
 (True ∧
 True) ∧
 True) ∧
 RR g.2.2.2.2.2.1 ∧
 True) ∧
 True) ∧
 (((opAt x.1 g.2.2.2.2.2.2.1).1 == (3 : Int)) = false →
 (((opAt x.1 g.2.2.2.2.2.2.1).1 == (4 : Int)) = true →
 ((0 : Int) ≤ (opAt x.1 g.2.2.2.2.2.2.1).2.1 ∧
 (opAt x.1 g.2.2.2.2.2.2.1).2.1 < (↑(4 : Nat) : Int)) ∧
 ((0 : Int) ≤ (opAt x.1 g.2.2.2.2.2.2.1).2.2.2.2.1 ∧
 (opAt x.1 g.2.2.2.2.2.2.1).2.2.2.2.1 < (↑(16 : Nat) : Int)) ∧
 ((((0 : Int) ≤ (0 : Int) ∧
 (0 : Int) ≤ (4 : Int) ∧
 RR (0 : Int) ∧
 (0 : Int) = cntM (g_1.1 + (1 : Int)) (List.take (Int.toNat (0 : Int)) (g.1.set (opAt x.1 g.2.2.2.2.2.2.1).2.1.toNat ((g.1.getD (opAt x.1 g.2.2.2.2.2.2.1).2.1.toNat Z16).set (opAt x.1 g.2.2.2.2.2.2.1).2.2.2.2.1.toNat (0 : Int))))) ∧
 True) ∧
 ((True ∧
 True) ∧
 (True ∧
 True) ∧
 (True ∧
 True) ∧
 True ∧
 True ∧
 True ∧
 True ∧
 True ∧
 (True ∧
 True) ∧
 g_1.1 = g_1.1 ∧
 x.1 = x.1 ∧
 RR (↑x.1.length : Int) ∧
 RR g.2.2.2.2.2.2.1 ∧
 (RR (g.1.set (opAt x.1 g.2.2.2.2.2.2.1).2.1.toNat ((g.1.getD (opAt x.1 g.2.2.2.2.2.2.1).2.1.toNat Z16).set (opAt x.1 g.2.2.2.2.2.2.1).2.2.2.2.1.toNat (0 : Int))) ∧
 True) ∧
 RR (0 : Int) ∧
 True) ∧
 ((RR (0 : Int) ∧
 RR (0 : Int) ∧
 True) ∧
 (Z64 = Z64 ∧
 True) ∧
 (RR (g.1.set (opAt x.1 g.2.2.2.2.2.2.1).2.1.toNat ((g.1.getD (opAt x.1 g.2.2.2.2.2.2.1).2.1.toNat Z16).set (opAt x.1 g.2.2.2.2.2.2.1).2.2.2.2.1.toNat (0 : Int))) ∧
 True) ∧
 (g.2.1 = g.2.1 ∧
 True) ∧
 g.2.2.1 = g.2.2.1 ∧
 RR g.2.2.2.1 ∧
 RR g.2.2.2.2.1 ∧
 (True ∧
 (True ∧
 True) ∧
 True) ∧
 RR g.2.2.2.2.2.1 ∧
 True) ∧
 True) ∧
 ∀ (g_2 : (Int × Int) × Int × Unit), (0 : Int) ≤ g_2.2.1 ∧
 g_2.2.1 ≤ (4 : Int) ∧
 g_2.1.1 = (0 : Int) ∧
 g_2.1.2 = cntM (g_1.1 + (1 : Int)) (List.take g_2.2.1.toNat (g.1.set (opAt x.1 g.2.2.2.2.2.2.1).2.1.toNat ((g.1.getD (opAt x.1 g.2.2.2.2.2.2.1).2.1.toNat Z16).set (opAt x.1 g.2.2.2.2.2.2.1).2.2.2.2.1.toNat (0 : Int)))) →
 (((-9223372036854775808 : Int) ≤ g_2.1.1 ∧
 g_2.1.1 ≤ (9223372036854775807 : Int)) ∧
 (-9223372036854775808 : Int) ≤ g_2.1.2 ∧
 g_2.1.2 ≤ (9223372036854775807 : Int)) ∧
 ((-9223372036854775808 : Int) ≤ g_2.2.1 ∧
 g_2.2.1 ≤ (9223372036854775807 : Int)) ∧
 True →
 (decide (g_2.2.1 < (4 : Int)) = true →
 ((0 : Int) ≤ g_2.2.1 ∧
 g_2.2.1 < (↑(4 : Nat) : Int)) ∧
 ((((0 : Int) ≤ (0 : Int) ∧
 (0 : Int) ≤ (16 : Int) ∧
 g_2.1.1 = (0 : Int) ∧
 g_2.1.2 = cntM (g_1.1 + (1 : Int)) (List.take g_2.2.1.toNat (g.1.set (opAt x.1 g.2.2.2.2.2.2.1).2.1.toNat ((g.1.getD (opAt x.1 g.2.2.2.2.2.2.1).2.1.toNat Z16).set (opAt x.1 g.2.2.2.2.2.2.1).2.2.2.2.1.toNat (0 : Int)))) + cnt (g_1.1 + (1 : Int)) (List.take (Int.toNat (0 : Int)) ((g.1.set (opAt x.1 g.2.2.2.2.2.2.1).2.1.toNat ((g.1.getD (opAt x.1 g.2.2.2.2.2.2.1).2.1.toNat Z16).set (opAt x.1 g.2.2.2.2.2.2.1).2.2.2.2.1.toNat (0 : Int))).getD g_2.2.1.toNat Z16))) ∧
 True) ∧
 ((True ∧
 True) ∧
 (True ∧
 True) ∧
 (True ∧
 True) ∧
 True ∧
 True ∧
 True ∧
 True ∧
 True ∧
 (True ∧
 True) ∧
 g_1.1 = g_1.1 ∧
 x.1 = x.1 ∧
 RR (↑x.1.length : Int) ∧
 RR g.2.2.2.2.2.2.1 ∧
 (RR (g.1.set (opAt x.1 g.2.2.2.2.2.2.1).2.1.toNat ((g.1.getD (opAt x.1 g.2.2.2.2.2.2.1).2.1.toNat Z16).set (opAt x.1 g.2.2.2.2.2.2.1).2.2.2.2.1.toNat (0 : Int))) ∧
 True) ∧
 g_2.2.1 = g_2.2.1 ∧
 (RR ((g.1.set (opAt x.1 g.2.2.2.2.2.2.1).2.1.toNat ((g.1.getD (opAt x.1 g.2.2.2.2.2.2.1).2.1.toNat Z16).set (opAt x.1 g.2.2.2.2.2.2.1).2.2.2.2.1.toNat (0 : Int))).getD g_2.2.1.toNat Z16) ∧
 True) ∧
 RR (0 : Int) ∧
 True) ∧
 ((g_2.1.1 = g_2.1.1 ∧
 g_2.1.2 = g_2.1.2 ∧
 True) ∧
 (Z64 = Z64 ∧
 True) ∧
 (RR (g.1.set (opAt x.1 g.2.2.2.2.2.2.1).2.1.toNat ((g.1.getD (opAt x.1 g.2.2.2.2.2.2.1).2.1.toNat Z16).set (opAt x.1 g.2.2.2.2.2.2.1).2.2.2.2.1.toNat (0 : Int))) ∧
 True) ∧
 (g.2.1 = g.2.1 ∧
 True) ∧
 g.2.2.1 = g.2.2.1 ∧
 RR g.2.2.2.1 ∧
 RR g.2.2.2.2.1 ∧
 (True ∧
 (True ∧
 True) ∧
 True) ∧
 RR g.2.2.2.2.2.1 ∧
 True) ∧
 True) ∧
 ∀ (g_3 : (Int × Int) × Int × Unit), (0 : Int) ≤ g_3.2.1 ∧
 g_3.2.1 ≤ (16 : Int) ∧
 g_3.1.1 = (0 : Int) ∧
 g_3.1.2 = cntM (g_1.1 + (1 : Int)) (List.take g_2.2.1.toNat (g.1.set (opAt x.1 g.2.2.2.2.2.2.1).2.1.toNat ((g.1.getD (opAt x.1 g.2.2.2.2.2.2.1).2.1.toNat Z16).set (opAt x.1 g.2.2.2.2.2.2.1).2.2.2.2.1.toNat (0 : Int)))) + cnt (g_1.1 + (1 : Int)) (List.take g_3.2.1.toNat ((g.1.set (opAt x.1 g.2.2.2.2.2.2.1).2.1.toNat ((g.1.getD (opAt x.1 g.2.2.2.2.2.2.1).2.1.toNat Z16).set (opAt x.1 g.2.2.2.2.2.2.1).2.2.2.2.1.toNat (0 : Int))).getD g_2.2.1.toNat Z16)) →
 (((-9223372036854775808 : Int) ≤ g_3.1.1 ∧
 g_3.1.1 ≤ (9223372036854775807 : Int)) ∧
 (-9223372036854775808 : Int) ≤ g_3.1.2 ∧
 g_3.1.2 ≤ (9223372036854775807 : Int)) ∧
 ((-9223372036854775808 : Int) ≤ g_3.2.1 ∧
 g_3.2.1 ≤ (9223372036854775807 : Int)) ∧
 True →
 (decide (g_3.2.1 < (16 : Int)) = true →
 ((0 : Int) ≤ g_3.2.1 ∧
 g_3.2.1 < (↑(16 : Nat) : Int)) ∧
 ((-9223372036854775808 : Int) ≤ g_1.1 + (1 : Int) ∧
 g_1.1 + (1 : Int) ≤ (9223372036854775807 : Int)) ∧
 ((((g.1.set (opAt x.1 g.2.2.2.2.2.2.1).2.1.toNat ((g.1.getD (opAt x.1 g.2.2.2.2.2.2.1).2.1.toNat Z16).set (opAt x.1 g.2.2.2.2.2.2.1).2.2.2.2.1.toNat (0 : Int))).getD g_2.2.1.toNat Z16).getD g_3.2.1.toNat (0 : Int) == g_1.1 + (1 : Int)) = true →
 ((-9223372036854775808 : Int) ≤ g_3.1.2 + (1 : Int) ∧
 g_3.1.2 + (1 : Int) ≤ (9223372036854775807 : Int)) ∧
 ((-9223372036854775808 : Int) ≤ g_3.2.1 + (1 : Int) ∧
 g_3.2.1 + (1 : Int) ≤ (9223372036854775807 : Int)) ∧
 (((0 : Int) ≤ g_3.2.1 + (1 : Int) ∧
 g_3.2.1 + (1 : Int) ≤ (16 : Int) ∧
 g_3.1.1 = (0 : Int) ∧
 g_3.1.2 + (1 : Int) = cntM (g_1.1 + (1 : Int)) (List.take g_2.2.1.toNat (g.1.set (opAt x.1 g.2.2.2.2.2.2.1).2.1.toNat ((g.1.getD (opAt x.1 g.2.2.2.2.2.2.1).2.1.toNat Z16).set (opAt x.1 g.2.2.2.2.2.2.1).2.2.2.2.1.toNat (0 : Int)))) + cnt (g_1.1 + (1 : Int)) (List.take (g_3.2.1 + (1 : Int)).toNat ((g.1.set (opAt x.1 g.2.2.2.2.2.2.1).2.1.toNat ((g.1.getD (opAt x.1 g.2.2.2.2.2.2.1).2.1.toNat Z16).set (opAt x.1 g.2.2.2.2.2.2.1).2.2.2.2.1.toNat (0 : Int))).getD g_2.2.1.toNat Z16))) ∧
 ((16 : Int) - (g_3.2.1 + (1 : Int))).toNat < ((16 : Int) - g_3.2.1).toNat) ∧
 ((True ∧
 True) ∧
 (True ∧
 True) ∧
 (True ∧
 True) ∧
 True ∧
 True ∧
 True ∧
 True ∧
 True ∧
 (True ∧
 True) ∧
 g_1.1 = g_1.1 ∧
 x.1 = x.1 ∧
 RR (↑x.1.length : Int) ∧
 RR g.2.2.2.2.2.2.1 ∧
 (RR (g.1.set (opAt x.1 g.2.2.2.2.2.2.1).2.1.toNat ((g.1.getD (opAt x.1 g.2.2.2.2.2.2.1).2.1.toNat Z16).set (opAt x.1 g.2.2.2.2.2.2.1).2.2.2.2.1.toNat (0 : Int))) ∧
 True) ∧
 g_2.2.1 = g_2.2.1 ∧
 (RR ((g.1.set (opAt x.1 g.2.2.2.2.2.2.1).2.1.toNat ((g.1.getD (opAt x.1 g.2.2.2.2.2.2.1).2.1.toNat Z16).set (opAt x.1 g.2.2.2.2.2.2.1).2.2.2.2.1.toNat (0 : Int))).getD g_2.2.1.toNat Z16) ∧
 True) ∧
 g_3.2.1 + (1 : Int) = g_3.2.1 + (1 : Int) ∧
 True) ∧
 ((g_3.1.1 = g_3.1.1 ∧
 g_3.1.2 + (1 : Int) = g_3.1.2 + (1 : Int) ∧
 True) ∧
 (Z64 = Z64 ∧
 True) ∧
 (RR (g.1.set (opAt x.1 g.2.2.2.2.2.2.1).2.1.toNat ((g.1.getD (opAt x.1 g.2.2.2.2.2.2.1).2.1.toNat Z16).set (opAt x.1 g.2.2.2.2.2.2.1).2.2.2.2.1.toNat (0 : Int))) ∧
 True) ∧
 (g.2.1 = g.2.1 ∧
 True) ∧
 g.2.2.1 = g.2.2.1 ∧
 RR g.2.2.2.1 ∧
 RR g.2.2.2.2.1 ∧
 (True ∧
 (True ∧
 True) ∧
 True) ∧
 RR g.2.2.2.2.2.1 ∧
 True) ∧
 True) ∧
 ((((g.1.set (opAt x.1 g.2.2.2.2.2.2.1).2.1.toNat ((g.1.getD (opAt x.1 g.2.2.2.2.2.2.1).2.1.toNat Z16).set (opAt x.1 g.2.2.2.2.2.2.1).2.2.2.2.1.toNat (0 : Int))).getD g_2.2.1.toNat Z16).getD g_3.2.1.toNat (0 : Int) == g_1.1 + (1 : Int)) = false →
 ((-9223372036854775808 : Int) ≤ g_3.2.1 + (1 : Int) ∧
 g_3.2.1 + (1 : Int) ≤ (9223372036854775807 : Int)) ∧
 (((0 : Int) ≤ g_3.2.1 + (1 : Int) ∧
 g_3.2.1 + (1 : Int) ≤ (16 : Int) ∧
 g_3.1.1 = (0 : Int) ∧
 g_3.1.2 = cntM (g_1.1 + (1 : Int)) (List.take g_2.2.1.toNat (g.1.set (opAt x.1 g.2.2.2.2.2.2.1).2.1.toNat ((g.1.getD (opAt x.1 g.2.2.2.2.2.2.1).2.1.toNat Z16).set (opAt x.1 g.2.2.2.2.2.2.1).2.2.2.2.1.toNat (0 : Int)))) + cnt (g_1.1 + (1 : Int)) (List.take (g_3.2.1 + (1 : Int)).toNat ((g.1.set (opAt x.1 g.2.2.2.2.2.2.1).2.1.toNat ((g.1.getD (opAt x.1 g.2.2.2.2.2.2.1).2.1.toNat Z16).set (opAt x.1 g.2.2.2.2.2.2.1).2.2.2.2.1.toNat (0 : Int))).getD g_2.2.1.toNat Z16))) ∧
 ((16 : Int) - (g_3.2.1 + (1 : Int))).toNat < ((16 : Int) - g_3.2.1).toNat) ∧
 ((True ∧
 True) ∧
 (True ∧
 True) ∧
 (True ∧
 True) ∧
 True ∧
 True ∧
 True ∧
 True ∧
 True ∧
 (True ∧
 True) ∧
 g_1.1 = g_1.1 ∧
 x.1 = x.1 ∧
 RR (↑x.1.length : Int) ∧
 RR g.2.2.2.2.2.2.1 ∧
 (RR (g.1.set (opAt x.1 g.2.2.2.2.2.2.1).2.1.toNat ((g.1.getD (opAt x.1 g.2.2.2.2.2.2.1).2.1.toNat Z16).set (opAt x.1 g.2.2.2.2.2.2.1).2.2.2.2.1.toNat (0 : Int))) ∧
 True) ∧
 g_2.2.1 = g_2.2.1 ∧
 (RR ((g.1.set (opAt x.1 g.2.2.2.2.2.2.1).2.1.toNat ((g.1.getD (opAt x.1 g.2.2.2.2.2.2.1).2.1.toNat Z16).set (opAt x.1 g.2.2.2.2.2.2.1).2.2.2.2.1.toNat (0 : Int))).getD g_2.2.1.toNat Z16) ∧
 True) ∧
 g_3.2.1 + (1 : Int) = g_3.2.1 + (1 : Int) ∧
 True) ∧
 ((g_3.1.1 = g_3.1.1 ∧
 g_3.1.2 = g_3.1.2 ∧
 True) ∧
 (Z64 = Z64 ∧
 True) ∧
 (RR (g.1.set (opAt x.1 g.2.2.2.2.2.2.1).2.1.toNat ((g.1.getD (opAt x.1 g.2.2.2.2.2.2.1).2.1.toNat Z16).set (opAt x.1 g.2.2.2.2.2.2.1).2.2.2.2.1.toNat (0 : Int))) ∧
 True) ∧
 (g.2.1 = g.2.1 ∧
 True) ∧
 g.2.2.1 = g.2.2.1 ∧
 RR g.2.2.2.1 ∧
 RR g.2.2.2.2.1 ∧
 (True ∧
 (True ∧
 True) ∧
 True) ∧
 RR g.2.2.2.2.2.1 ∧
 True) ∧
 True)) ∧
 (decide (g_3.2.1 < (16 : Int)) = false →
 ((-9223372036854775808 : Int) ≤ g_2.2.1 + (1 : Int) ∧
 g_2.2.1 + (1 : Int) ≤ (9223372036854775807 : Int)) ∧
 (((0 : Int) ≤ g_2.2.1 + (1 : Int) ∧
 g_2.2.1 + (1 : Int) ≤ (4 : Int) ∧
 g_3.1.1 = (0 : Int) ∧
 g_3.1.2 = cntM (g_1.1 + (1 : Int)) (List.take (g_2.2.1 + (1 : Int)).toNat (g.1.set (opAt x.1 g.2.2.2.2.2.2.1).2.1.toNat ((g.1.getD (opAt x.1 g.2.2.2.2.2.2.1).2.1.toNat Z16).set (opAt x.1 g.2.2.2.2.2.2.1).2.2.2.2.1.toNat (0 : Int))))) ∧
 ((4 : Int) - (g_2.2.1 + (1 : Int))).toNat < ((4 : Int) - g_2.2.1).toNat) ∧
 ((True ∧
 True) ∧
 (True ∧
 True) ∧
 (True ∧
 True) ∧
 True ∧
 True ∧
 True ∧
 True ∧
 True ∧
 (True ∧
 True) ∧
 g_1.1 = g_1.1 ∧
 x.1 = x.1 ∧
 RR (↑x.1.length : Int) ∧
 RR g.2.2.2.2.2.2.1 ∧
 (RR (g.1.set (opAt x.1 g.2.2.2.2.2.2.1).2.1.toNat ((g.1.getD (opAt x.1 g.2.2.2.2.2.2.1).2.1.toNat Z16).set (opAt x.1 g.2.2.2.2.2.2.1).2.2.2.2.1.toNat (0 : Int))) ∧
 True) ∧
 g_2.2.1 + (1 : Int) = g_2.2.1 + (1 : Int) ∧
 True) ∧
 ((g_3.1.1 = g_3.1.1 ∧
 g_3.1.2 = g_3.1.2 ∧
 True) ∧
 (Z64 = Z64 ∧
 True) ∧
 (RR (g.1.set (opAt x.1 g.2.2.2.2.2.2.1).2.1.toNat ((g.1.getD (opAt x.1 g.2.2.2.2.2.2.1).2.1.toNat Z16).set (opAt x.1 g.2.2.2.2.2.2.1).2.2.2.2.1.toNat (0 : Int))) ∧
 True) ∧
 (g.2.1 = g.2.1 ∧
 True) ∧
 g.2.2.1 = g.2.2.1 ∧
 RR g.2.2.2.1 ∧
 RR g.2.2.2.2.1 ∧
 (True ∧
 (True ∧
 True) ∧
 True) ∧
 RR g.2.2.2.2.2.1 ∧
 True) ∧
 True)) ∧
 (decide (g_2.2.1 < (4 : Int)) = false →
 (doV (g.1, g.2.1, g.2.2.1, g.2.2.2.1, g.2.2.2.2.1) (decide ((0 : Int) ≤ (opAt x.1 g.2.2.2.2.2.2.1).2.1) && decide ((opAt x.1 g.2.2.2.2.2.2.1).2.1 < (4 : Int)) && g.2.1.getD (opAt x.1 g.2.2.2.2.2.2.1).2.1.toNat false) g_1.1 ((opAt x.1 g.2.2.2.2.2.2.1).1, (opAt x.1 g.2.2.2.2.2.2.1).2.1, (opAt x.1 g.2.2.2.2.2.2.1).2.2.1, (opAt x.1 g.2.2.2.2.2.2.1).2.2.2.1, (opAt x.1 g.2.2.2.2.2.2.1).2.2.2.2.1, (opAt x.1 g.2.2.2.2.2.2.1).2.2.2.2.2.1, (opAt x.1 g.2.2.2.2.2.2.1).2.2.2.2.2.2) = ((g.1.set (opAt x.1 g.2.2.2.2.2.2.1).2.1.toNat ((g.1.getD (opAt x.1 g.2.2.2.2.2.2.1).2.1.toNat Z16).set (opAt x.1 g.2.2.2.2.2.2.1).2.2.2.2.1.toNat (0 : Int)), g.2.1, g.2.2.1, g.2.2.2.1, g.2.2.2.2.1), g_2.1.1, g_2.1.2) ∧
 True) ∧
 ((True ∧
 True) ∧
 (True ∧
 True) ∧
 (True ∧
 True) ∧
 True ∧
 True ∧
 True ∧
 True ∧
 True ∧
 (True ∧
 True) ∧
 x.1 = x.1 ∧
 RR (↑x.1.length : Int) ∧
 RR g.2.2.2.2.2.2.1 ∧
 True) ∧
 ((RR (g.1.set (opAt x.1 g.2.2.2.2.2.2.1).2.1.toNat ((g.1.getD (opAt x.1 g.2.2.2.2.2.2.1).2.1.toNat Z16).set (opAt x.1 g.2.2.2.2.2.2.1).2.2.2.2.1.toNat (0 : Int))) ∧
 True) ∧
 (g.2.1 = g.2.1 ∧
 True) ∧
 g.2.2.1 = g.2.2.1 ∧
 RR g.2.2.2.1 ∧
 RR g.2.2.2.2.1 ∧
 (g_2.1.1 = g_2.1.1 ∧
 g_2.1.2 = g_2.1.2 ∧
 True) ∧
 (Z64 = Z64 ∧
 True) ∧
 (True ∧
 (True ∧
 True) ∧
 True) ∧
 RR g.2.2.2.2.2.1 ∧
 True) ∧
 True)) ∧
 (((opAt x.1 g.2.2.2.2.2.2.1).1 == (4 : Int)) = false →
 (((opAt x.1 g.2.2.2.2.2.2.1).1 == (6 : Int)) = true →
 ((0 : Int) ≤ g_1.1 ∧
 g_1.1 < (↑g.2.2.2.2.1.length : Int)) ∧
 (doV (g.1, g.2.1, g.2.2.1, g.2.2.2.1, g.2.2.2.2.1) (decide ((0 : Int) ≤ (opAt x.1 g.2.2.2.2.2.2.1).2.1) && decide ((opAt x.1 g.2.2.2.2.2.2.1).2.1 < (4 : Int)) && g.2.1.getD (opAt x.1 g.2.2.2.2.2.2.1).2.1.toNat false) g_1.1 ((opAt x.1 g.2.2.2.2.2.2.1).1, (opAt x.1 g.2.2.2.2.2.2.1).2.1, (opAt x.1 g.2.2.2.2.2.2.1).2.2.1, (opAt x.1 g.2.2.2.2.2.2.1).2.2.2.1, (opAt x.1 g.2.2.2.2.2.2.1).2.2.2.2.1, (opAt x.1 g.2.2.2.2.2.2.1).2.2.2.2.2.1, (opAt x.1 g.2.2.2.2.2.2.1).2.2.2.2.2.2) = ((g.1, g.2.1, g.2.2.1, g.2.2.2.1, g.2.2.2.2.1.set g_1.1.toNat (opAt x.1 g.2.2.2.2.2.2.1).2.2.2.2.2.2), (0 : Int), (opAt x.1 g.2.2.2.2.2.2.1).2.2.2.2.2.2) ∧
 True) ∧
 ((True ∧
 True) ∧
 (True ∧
 True) ∧
 (True ∧
 True) ∧
 True ∧
 True ∧
 True ∧
 True ∧
 True ∧
 (True ∧
 True) ∧
 x.1 = x.1 ∧
 RR (↑x.1.length : Int) ∧
 RR g.2.2.2.2.2.2.1 ∧
 True) ∧
 ((g.1 = g.1 ∧
 True) ∧
 (g.2.1 = g.2.1 ∧
 True) ∧
 g.2.2.1 = g.2.2.1 ∧
 RR g.2.2.2.1 ∧
 RR (g.2.2.2.2.1.set g_1.1.toNat (opAt x.1 g.2.2.2.2.2.2.1).2.2.2.2.2.2) ∧
 (RR (0 : Int) ∧
 RR ((opAt x.1 g.2.2.2.2.2.2.1).2.2.2.2.2.2) ∧
 True) ∧
 (Z64 = Z64 ∧
 True) ∧
 (True ∧
 (True ∧
 True) ∧
 True) ∧
 RR g.2.2.2.2.2.1 ∧
 True) ∧
 True) ∧
 (((opAt x.1 g.2.2.2.2.2.2.1).1 == (6 : Int)) = false →
 ((0 : Int) ≤ g_1.1 ∧
 g_1.1 < (↑g.2.2.2.1.length : Int)) ∧
 ((0 : Int) ≤ g_1.1 ∧
 g_1.1 < (↑g.2.2.2.2.1.length : Int)) ∧
 ((-9223372036854775808 : Int) ≤ g.2.2.2.1.getD g_1.1.toNat (0 : Int) - g.2.2.2.2.1.getD g_1.1.toNat (0 : Int) ∧
 g.2.2.2.1.getD g_1.1.toNat (0 : Int) - g.2.2.2.2.1.getD g_1.1.toNat (0 : Int) ≤ (9223372036854775807 : Int)) ∧
 (decide ((0 : Int) < g.2.2.2.1.getD g_1.1.toNat (0 : Int) - g.2.2.2.2.1.getD g_1.1.toNat (0 : Int)) = true →
 ((0 : Int) ≤ g_1.1 ∧
 g_1.1 < (↑g.2.2.2.2.1.length : Int)) ∧
 ((-9223372036854775808 : Int) ≤ g.2.2.2.2.1.getD g_1.1.toNat (0 : Int) + min (g.2.2.2.1.getD g_1.1.toNat (0 : Int) - g.2.2.2.2.1.getD g_1.1.toNat (0 : Int)) (opAt x.1 g.2.2.2.2.2.2.1).2.2.2.2.2.2 ∧
 g.2.2.2.2.1.getD g_1.1.toNat (0 : Int) + min (g.2.2.2.1.getD g_1.1.toNat (0 : Int) - g.2.2.2.2.1.getD g_1.1.toNat (0 : Int)) (opAt x.1 g.2.2.2.2.2.2.1).2.2.2.2.2.2 ≤ (9223372036854775807 : Int)) ∧
 ((0 : Int) ≤ g_1.1 ∧
 g_1.1 < (↑g.2.2.2.2.1.length : Int)) ∧
 (doV (g.1, g.2.1, g.2.2.1, g.2.2.2.1, g.2.2.2.2.1) (decide ((0 : Int) ≤ (opAt x.1 g.2.2.2.2.2.2.1).2.1) && decide ((opAt x.1 g.2.2.2.2.2.2.1).2.1 < (4 : Int)) && g.2.1.getD (opAt x.1 g.2.2.2.2.2.2.1).2.1.toNat false) g_1.1 ((opAt x.1 g.2.2.2.2.2.2.1).1, (opAt x.1 g.2.2.2.2.2.2.1).2.1, (opAt x.1 g.2.2.2.2.2.2.1).2.2.1, (opAt x.1 g.2.2.2.2.2.2.1).2.2.2.1, (opAt x.1 g.2.2.2.2.2.2.1).2.2.2.2.1, (opAt x.1 g.2.2.2.2.2.2.1).2.2.2.2.2.1, (opAt x.1 g.2.2.2.2.2.2.1).2.2.2.2.2.2) = ((g.1, g.2.1, g.2.2.1, g.2.2.2.1, g.2.2.2.2.1.set g_1.1.toNat (g.2.2.2.2.1.getD g_1.1.toNat (0 : Int) + min (g.2.2.2.1.getD g_1.1.toNat (0 : Int) - g.2.2.2.2.1.getD g_1.1.toNat (0 : Int)) (opAt x.1 g.2.2.2.2.2.2.1).2.2.2.2.2.2)), (0 : Int), min (g.2.2.2.1.getD g_1.1.toNat (0 : Int) - g.2.2.2.2.1.getD g_1.1.toNat (0 : Int)) (opAt x.1 g.2.2.2.2.2.2.1).2.2.2.2.2.2) ∧
 True) ∧
 ((True ∧
 True) ∧
 (True ∧
 True) ∧
 (True ∧
 True) ∧
 True ∧
 True ∧
 True ∧
 True ∧
 True ∧
 (True ∧
 True) ∧
 x.1 = x.1 ∧
 RR (↑x.1.length : Int) ∧
 RR g.2.2.2.2.2.2.1 ∧
 True) ∧
 ((g.1 = g.1 ∧
 True) ∧
 (g.2.1 = g.2.1 ∧
 True) ∧
 g.2.2.1 = g.2.2.1 ∧
 RR g.2.2.2.1 ∧
 RR (g.2.2.2.2.1.set g_1.1.toNat (g.2.2.2.2.1.getD g_1.1.toNat (0 : Int) + min (g.2.2.2.1.getD g_1.1.toNat (0 : Int) - g.2.2.2.2.1.getD g_1.1.toNat (0 : Int)) (opAt x.1 g.2.2.2.2.2.2.1).2.2.2.2.2.2)) ∧
 (RR (0 : Int) ∧
 RR (min (g.2.2.2.1.getD g_1.1.toNat (0 : Int) - g.2.2.2.2.1.getD g_1.1.toNat (0 : Int)) (opAt x.1 g.2.2.2.2.2.2.1).2.2.2.2.2.2) ∧
 True) ∧
 (Z64 = Z64 ∧
 True) ∧
 (True ∧
 (True ∧
 True) ∧
 True) ∧
 RR g.2.2.2.2.2.1 ∧
 True) ∧
 True) ∧
 (decide ((0 : Int) < g.2.2.2.1.getD g_1.1.toNat (0 : Int) - g.2.2.2.2.1.getD g_1.1.toNat (0 : Int)) = false →
 ((0 : Int) ≤ g_1.1 ∧
 g_1.1 < (↑g.2.2.2.2.1.length : Int)) ∧
 ((-9223372036854775808 : Int) ≤ g.2.2.2.2.1.getD g_1.1.toNat (0 : Int) + (0 : Int) ∧
 g.2.2.2.2.1.getD g_1.1.toNat (0 : Int) + (0 : Int) ≤ (9223372036854775807 : Int)) ∧
 ((0 : Int) ≤ g_1.1 ∧
 g_1.1 < (↑g.2.2.2.2.1.length : Int)) ∧
 (doV (g.1, g.2.1, g.2.2.1, g.2.2.2.1, g.2.2.2.2.1) (decide ((0 : Int) ≤ (opAt x.1 g.2.2.2.2.2.2.1).2.1) && decide ((opAt x.1 g.2.2.2.2.2.2.1).2.1 < (4 : Int)) && g.2.1.getD (opAt x.1 g.2.2.2.2.2.2.1).2.1.toNat false) g_1.1 ((opAt x.1 g.2.2.2.2.2.2.1).1, (opAt x.1 g.2.2.2.2.2.2.1).2.1, (opAt x.1 g.2.2.2.2.2.2.1).2.2.1, (opAt x.1 g.2.2.2.2.2.2.1).2.2.2.1, (opAt x.1 g.2.2.2.2.2.2.1).2.2.2.2.1, (opAt x.1 g.2.2.2.2.2.2.1).2.2.2.2.2.1, (opAt x.1 g.2.2.2.2.2.2.1).2.2.2.2.2.2) = ((g.1, g.2.1, g.2.2.1, g.2.2.2.1, g.2.2.2.2.1.set g_1.1.toNat (g.2.2.2.2.1.getD g_1.1.toNat (0 : Int) + (0 : Int))), (0 : Int), (0 : Int)) ∧
 True) ∧
 ((True ∧
 True) ∧
 (True ∧
 True) ∧
 (True ∧
 True) ∧
 True ∧
 True ∧
 True ∧
 True ∧
 True ∧
 (True ∧
 True) ∧
 x.1 = x.1 ∧
 RR (↑x.1.length : Int) ∧
 RR g.2.2.2.2.2.2.1 ∧
 True) ∧
 ((g.1 = g.1 ∧
 True) ∧
 (g.2.1 = g.2.1 ∧
 True) ∧
 g.2.2.1 = g.2.2.1 ∧
 RR g.2.2.2.1 ∧
 RR (g.2.2.2.2.1.set g_1.1.toNat (g.2.2.2.2.1.getD g_1.1.toNat (0 : Int) + (0 : Int))) ∧
 (RR (0 : Int) ∧
 RR (0 : Int) ∧
 True) ∧
 (Z64 = Z64 ∧
 True) ∧
 (True ∧
 (True ∧
 True) ∧
 True) ∧
 RR g.2.2.2.2.2.1 ∧
 True) ∧
 True))))))))))) ∧
 (((opAt x.1 g.2.2.2.2.2.2.1).1 == (1 : Int) || (opAt x.1 g.2.2.2.2.2.2.1).1 == (2 : Int)) = !true →
 (((opAt x.1 g.2.2.2.2.2.2.1).1 == (1 : Int)) = true →
 (g.2.2.1.length + (((0 : Int) :: ([] : List Int)).set (0 : Nat) (opAt x.1 g.2.2.2.2.2.2.1).2.2.1).length ≤ (9223372036854775807 : Nat) ∧
 (g.2.2.1.length + (((0 : Int) :: ([] : List Int)).set (0 : Nat) (opAt x.1 g.2.2.2.2.2.2.1).2.2.1).length + (g.2.2.1.length + (((0 : Int) :: ([] : List Int)).set (0 : Nat) (opAt x.1 g.2.2.2.2.2.2.1).2.2.1).length) / (4 : Nat) + (192 : Nat)) * (8 : Nat) ≤ (281474976710656 : Nat)) ∧
 (g.2.2.2.1.length + (((0 : Int) :: ([] : List Int)).set (0 : Nat) (opAt x.1 g.2.2.2.2.2.2.1).2.2.2.1).length ≤ (9223372036854775807 : Nat) ∧
 (g.2.2.2.1.length + (((0 : Int) :: ([] : List Int)).set (0 : Nat) (opAt x.1 g.2.2.2.2.2.2.1).2.2.2.1).length + (g.2.2.2.1.length + (((0 : Int) :: ([] : List Int)).set (0 : Nat) (opAt x.1 g.2.2.2.2.2.2.1).2.2.2.1).length) / (4 : Nat) + (192 : Nat)) * (8 : Nat) ≤ (281474976710656 : Nat)) ∧
 (g.2.2.2.2.1.length + (((0 : Int) :: ([] : List Int)).set (0 : Nat) (0 : Int)).length ≤ (9223372036854775807 : Nat) ∧
 (g.2.2.2.2.1.length + (((0 : Int) :: ([] : List Int)).set (0 : Nat) (0 : Int)).length + (g.2.2.2.2.1.length + (((0 : Int) :: ([] : List Int)).set (0 : Nat) (0 : Int)).length) / (4 : Nat) + (192 : Nat)) * (8 : Nat) ≤ (281474976710656 : Nat)) ∧
 Holds ((0 : Int) ≤ (opAt x.1 g.2.2.2.2.2.2.1).2.1 ∧
 (opAt x.1 g.2.2.2.2.2.2.1).2.1 < (4 : Int)) ∧
 ((RR ((opAt x.1 g.2.2.2.2.2.2.1).2.1) ∧
 (True ∧
 True) ∧
 True) ∧
 (g.1 = g.1 ∧
 True) ∧
 True) ∧
 ((0 : Int) ≤ (opAt x.1 g.2.2.2.2.2.2.1).2.1 ∧
 (opAt x.1 g.2.2.2.2.2.2.1).2.1 < (↑(4 : Nat) : Int)) ∧
 ((0 : Int) ≤ idx (row g.1 (opAt x.1 g.2.2.2.2.2.2.1).2.1) (0 : Int) ∧
 idx (row g.1 (opAt x.1 g.2.2.2.2.2.2.1).2.1) (0 : Int) < (↑(16 : Nat) : Int)) ∧
 (doV (g.1, g.2.1, g.2.2.1, g.2.2.2.1, g.2.2.2.2.1) (decide ((0 : Int) ≤ (opAt x.1 g.2.2.2.2.2.2.1).2.1) && decide ((opAt x.1 g.2.2.2.2.2.2.1).2.1 < (4 : Int)) && g.2.1.getD (opAt x.1 g.2.2.2.2.2.2.1).2.1.toNat false) g_1.1 ((opAt x.1 g.2.2.2.2.2.2.1).1, (opAt x.1 g.2.2.2.2.2.2.1).2.1, (opAt x.1 g.2.2.2.2.2.2.1).2.2.1, (opAt x.1 g.2.2.2.2.2.2.1).2.2.2.1, (opAt x.1 g.2.2.2.2.2.2.1).2.2.2.2.1, (opAt x.1 g.2.2.2.2.2.2.1).2.2.2.2.2.1, (opAt x.1 g.2.2.2.2.2.2.1).2.2.2.2.2.2) = ((g.1.set (opAt x.1 g.2.2.2.2.2.2.1).2.1.toNat ((g.1.getD (opAt x.1 g.2.2.2.2.2.2.1).2.1.toNat Z16).set (idx (row g.1 (opAt x.1 g.2.2.2.2.2.2.1).2.1) (0 : Int)).toNat (↑(g.2.2.1 ++ ((0 : Int) :: ([] : List Int)).set (0 : Nat) (opAt x.1 g.2.2.2.2.2.2.1).2.2.1).length : Int)), g.2.1, g.2.2.1 ++ ((0 : Int) :: ([] : List Int)).set (0 : Nat) (opAt x.1 g.2.2.2.2.2.2.1).2.2.1, g.2.2.2.1 ++ ((0 : Int) :: ([] : List Int)).set (0 : Nat) (opAt x.1 g.2.2.2.2.2.2.1).2.2.2.1, g.2.2.2.2.1 ++ ((0 : Int) :: ([] : List Int)).set (0 : Nat) (0 : Int)), (0 : Int), idx (row g.1 (opAt x.1 g.2.2.2.2.2.2.1).2.1) (0 : Int)) ∧
 True) ∧
 ((True ∧
 True) ∧
 (True ∧
 True) ∧
 (True ∧
 True) ∧
 True ∧
 True ∧
 True ∧
 True ∧
 True ∧
 (True ∧
 True) ∧
 x.1 = x.1 ∧
 RR (↑x.1.length : Int) ∧
 RR g.2.2.2.2.2.2.1 ∧
 True) ∧
 ((g.1.set (opAt x.1 g.2.2.2.2.2.2.1).2.1.toNat ((g.1.getD (opAt x.1 g.2.2.2.2.2.2.1).2.1.toNat Z16).set (idx (row g.1 (opAt x.1 g.2.2.2.2.2.2.1).2.1) (0 : Int)).toNat (↑(g.2.2.1 ++ ((0 : Int) :: ([] : List Int)).set (0 : Nat) (opAt x.1 g.2.2.2.2.2.2.1).2.2.1).length : Int)) = g.1.set (opAt x.1 g.2.2.2.2.2.2.1).2.1.toNat ((g.1.getD (opAt x.1 g.2.2.2.2.2.2.1).2.1.toNat Z16).set (idx (row g.1 (opAt x.1 g.2.2.2.2.2.2.1).2.1) (0 : Int)).toNat (↑(g.2.2.1 ++ ((0 : Int) :: ([] : List Int)).set (0 : Nat) (opAt x.1 g.2.2.2.2.2.2.1).2.2.1).length : Int)) ∧
 True) ∧
 (g.2.1 = g.2.1 ∧
 True) ∧
 g.2.2.1 ++ ((0 : Int) :: ([] : List Int)).set (0 : Nat) (opAt x.1 g.2.2.2.2.2.2.1).2.2.1 = g.2.2.1 ++ ((0 : Int) :: ([] : List Int)).set (0 : Nat) (opAt x.1 g.2.2.2.2.2.2.1).2.2.1 ∧
 g.2.2.2.1 ++ ((0 : Int) :: ([] : List Int)).set (0 : Nat) (opAt x.1 g.2.2.2.2.2.2.1).2.2.2.1 = g.2.2.2.1 ++ ((0 : Int) :: ([] : List Int)).set (0 : Nat) (opAt x.1 g.2.2.2.2.2.2.1).2.2.2.1 ∧
 g.2.2.2.2.1 ++ ((0 : Int) :: ([] : List Int)).set (0 : Nat) (0 : Int) = g.2.2.2.2.1 ++ ((0 : Int) :: ([] : List Int)).set (0 : Nat) (0 : Int) ∧
 (RR (0 : Int) ∧
 RR (idx (row g.1 (opAt x.1 g.2.2.2.2.2.2.1).2.1) (0 : Int)) ∧
 True) ∧
 (Z64 = Z64 ∧
 True) ∧
 (True ∧
 (True ∧
 True) ∧
 True) ∧
 RR g.2.2.2.2.2.1 ∧
 True) ∧
 True) ∧
 (((opAt x.1 g.2.2.2.2.2.2.1).1 == (1 : Int)) = false →
 (((opAt x.1 g.2.2.2.2.2.2.1).1 == (2 : Int)) = true →
 Holds ((0 : Int) ≤ (opAt x.1 g.2.2.2.2.2.2.1).2.1 ∧
 (opAt x.1 g.2.2.2.2.2.2.1).2.1 < (4 : Int)) ∧
 ((RR ((opAt x.1 g.2.2.2.2.2.2.1).2.1) ∧
 (True ∧
 True) ∧
 True) ∧
 (g.1 = g.1 ∧
 True) ∧
 True) ∧
 ((-9223372036854775808 : Int) ≤ g_1.1 + (1 : Int) ∧
 g_1.1 + (1 : Int) ≤ (9223372036854775807 : Int)) ∧
 ((0 : Int) ≤ (opAt x.1 g.2.2.2.2.2.2.1).2.1 ∧
 (opAt x.1 g.2.2.2.2.2.2.1).2.1 < (↑(4 : Nat) : Int)) ∧
 ((0 : Int) ≤ idx (row g.1 (opAt x.1 g.2.2.2.2.2.2.1).2.1) (0 : Int) ∧
 idx (row g.1 (opAt x.1 g.2.2.2.2.2.2.1).2.1) (0 : Int) < (↑(16 : Nat) : Int)) ∧
 (doV (g.1, g.2.1, g.2.2.1, g.2.2.2.1, g.2.2.2.2.1) (decide ((0 : Int) ≤ (opAt x.1 g.2.2.2.2.2.2.1).2.1) && decide ((opAt x.1 g.2.2.2.2.2.2.1).2.1 < (4 : Int)) && g.2.1.getD (opAt x.1 g.2.2.2.2.2.2.1).2.1.toNat false) g_1.1 ((opAt x.1 g.2.2.2.2.2.2.1).1, (opAt x.1 g.2.2.2.2.2.2.1).2.1, (opAt x.1 g.2.2.2.2.2.2.1).2.2.1, (opAt x.1 g.2.2.2.2.2.2.1).2.2.2.1, (opAt x.1 g.2.2.2.2.2.2.1).2.2.2.2.1, (opAt x.1 g.2.2.2.2.2.2.1).2.2.2.2.2.1, (opAt x.1 g.2.2.2.2.2.2.1).2.2.2.2.2.2) = ((g.1.set (opAt x.1 g.2.2.2.2.2.2.1).2.1.toNat ((g.1.getD (opAt x.1 g.2.2.2.2.2.2.1).2.1.toNat Z16).set (idx (row g.1 (opAt x.1 g.2.2.2.2.2.2.1).2.1) (0 : Int)).toNat (g_1.1 + (1 : Int))), g.2.1, g.2.2.1, g.2.2.2.1, g.2.2.2.2.1), (0 : Int), idx (row g.1 (opAt x.1 g.2.2.2.2.2.2.1).2.1) (0 : Int)) ∧
 True) ∧
 ((True ∧
 True) ∧
 (True ∧
 True) ∧
 (True ∧
 True) ∧
 True ∧
 True ∧
 True ∧
 True ∧
 True ∧
 (True ∧
 True) ∧
 x.1 = x.1 ∧
 RR (↑x.1.length : Int) ∧
 RR g.2.2.2.2.2.2.1 ∧
 True) ∧
 ((RR (g.1.set (opAt x.1 g.2.2.2.2.2.2.1).2.1.toNat ((g.1.getD (opAt x.1 g.2.2.2.2.2.2.1).2.1.toNat Z16).set (idx (row g.1 (opAt x.1 g.2.2.2.2.2.2.1).2.1) (0 : Int)).toNat (g_1.1 + (1 : Int)))) ∧
 True) ∧
 (g.2.1 = g.2.1 ∧
 True) ∧
 g.2.2.1 = g.2.2.1 ∧
 RR g.2.2.2.1 ∧
 RR g.2.2.2.2.1 ∧
 (RR (0 : Int) ∧
 RR (idx (row g.1 (opAt x.1 g.2.2.2.2.2.2.1).2.1) (0 : Int)) ∧
 True) ∧
 (Z64 = Z64 ∧
 True) ∧
 (True ∧
 (True ∧
 True) ∧
 True) ∧
 RR g.2.2.2.2.2.1 ∧
 True) ∧
 True) ∧
 (((opAt x.1 g.2.2.2.2.2.2.1).1 == (2 : Int)) = false →
 (((opAt x.1 g.2.2.2.2.2.2.1).1 == (3 : Int)) = true →
 ((opAt x.1 g.2.2.2.2.2.2.1).1 == (3 : Int)) = true) ∧
 (((opAt x.1 g.2.2.2.2.2.2.1).1 == (3 : Int)) = true →
 ((opAt x.1 g.2.2.2.2.2.2.1).1 == (3 : Int)) = true) ∧
 (((opAt x.1 g.2.2.2.2.2.2.1).1 == (3 : Int)) = true →
 ((opAt x.1 g.2.2.2.2.2.2.1).1 == (3 : Int)) = true) ∧
 (((opAt x.1 g.2.2.2.2.2.2.1).1 == (3 : Int) && !decide ((opAt x.1 g.2.2.2.2.2.2.1).2.2.2.2.2.1 < (0 : Int))) = true →
 ((opAt x.1 g.2.2.2.2.2.2.1).1 == (3 : Int) && !decide ((opAt x.1 g.2.2.2.2.2.2.1).2.2.2.2.2.1 < (0 : Int))) = true) ∧
 (((opAt x.1 g.2.2.2.2.2.2.1).1 == (3 : Int) && !decide ((opAt x.1 g.2.2.2.2.2.2.1).2.2.2.2.2.1 < (0 : Int))) = true →
 ((opAt x.1 g.2.2.2.2.2.2.1).1 == (3 : Int) && !decide ((opAt x.1 g.2.2.2.2.2.2.1).2.2.2.2.2.1 < (0 : Int))) = true) ∧
 (((opAt x.1 g.2.2.2.2.2.2.1).1 == (3 : Int)) = true →
 ((opAt x.1 g.2.2.2.2.2.2.1).1 == (3 : Int)) = true ∧
 (decide ((opAt x.1 g.2.2.2.2.2.2.1).2.2.2.2.2.1 < (0 : Int)) = false →
 ((opAt x.1 g.2.2.2.2.2.2.1).1 == (3 : Int) && !decide ((opAt x.1 g.2.2.2.2.2.2.1).2.2.2.2.2.1 < (0 : Int))) = true)) ∧
 (((opAt x.1 g.2.2.2.2.2.2.1).1 == (3 : Int)) = true →
 ((opAt x.1 g.2.2.2.2.2.2.1).1 == (3 : Int)) = true) ∧
 (((opAt x.1 g.2.2.2.2.2.2.1).1 == (3 : Int) && (decide ((opAt x.1 g.2.2.2.2.2.2.1).2.2.2.2.2.1 < (0 : Int)) || decide ((15 : Int) < (opAt x.1 g.2.2.2.2.2.2.1).2.2.2.2.2.1))) = true →
 (doV (g.1, g.2.1, g.2.2.1, g.2.2.2.1, g.2.2.2.2.1) (decide ((0 : Int) ≤ (opAt x.1 g.2.2.2.2.2.2.1).2.1) && decide ((opAt x.1 g.2.2.2.2.2.2.1).2.1 < (4 : Int)) && g.2.1.getD (opAt x.1 g.2.2.2.2.2.2.1).2.1.toNat false) g_1.1 ((opAt x.1 g.2.2.2.2.2.2.1).1, (opAt x.1 g.2.2.2.2.2.2.1).2.1, (opAt x.1 g.2.2.2.2.2.2.1).2.2.1, (opAt x.1 g.2.2.2.2.2.2.1).2.2.2.1, (opAt x.1 g.2.2.2.2.2.2.1).2.2.2.2.1, (opAt x.1 g.2.2.2.2.2.2.1).2.2.2.2.2.1, (opAt x.1 g.2.2.2.2.2.2.1).2.2.2.2.2.2) = ((g.1, g.2.1, g.2.2.1, g.2.2.2.1, g.2.2.2.2.1), (2 : Int), (0 : Int)) ∧
 True) ∧
 ((True ∧
 True) ∧
 (True ∧
 True) ∧
 (True ∧
 True) ∧
 True ∧
 True ∧
 True ∧
 True ∧
 True ∧
 (True ∧
 True) ∧
 x.1 = x.1 ∧
 RR (↑x.1.length : Int) ∧
 RR g.2.2.2.2.2.2.1 ∧
 True) ∧
 ((g.1 = g.1 ∧
 True) ∧
 (g.2.1 = g.2.1 ∧
 True) ∧
 g.2.2.1 = g.2.2.1 ∧
 RR g.2.2.2.1 ∧
 RR g.2.2.2.2.1 ∧
 (RR (2 : Int) ∧
 RR (0 : Int) ∧
 True) ∧
 (Z64 = Z64 ∧
 True) ∧
 (True ∧
 (True ∧
 True) ∧
 True) ∧
 RR g.2.2.2.2.2.1 ∧
 True) ∧
 True) ∧
 (((opAt x.1 g.2.2.2.2.2.2.1).1 == (3 : Int) && (decide ((opAt x.1 g.2.2.2.2.2.2.1).2.2.2.2.2.1 < (0 : Int)) || decide ((15 : Int) < (opAt x.1 g.2.2.2.2.2.2.1).2.2.2.2.2.1))) = false →
 (((opAt x.1 g.2.2.2.2.2.2.1).1 == (6 : Int)) = true →
 ((opAt x.1 g.2.2.2.2.2.2.1).1 == (6 : Int)) = true) ∧
 (((opAt x.1 g.2.2.2.2.2.2.1).1 == (6 : Int)) = true →
 ((opAt x.1 g.2.2.2.2.2.2.1).1 == (6 : Int)) = true) ∧
 (((opAt x.1 g.2.2.2.2.2.2.1).1 == (6 : Int)) = true →
 ((opAt x.1 g.2.2.2.2.2.2.1).1 == (6 : Int)) = true) ∧
 (((opAt x.1 g.2.2.2.2.2.2.1).1 == (6 : Int) && !decide ((opAt x.1 g.2.2.2.2.2.2.1).2.2.2.2.2.2 < (0 : Int))) = true →
 ((opAt x.1 g.2.2.2.2.2.2.1).1 == (6 : Int) && !decide ((opAt x.1 g.2.2.2.2.2.2.1).2.2.2.2.2.2 < (0 : Int))) = true) ∧
 (((opAt x.1 g.2.2.2.2.2.2.1).1 == (6 : Int) && !decide ((opAt x.1 g.2.2.2.2.2.2.1).2.2.2.2.2.2 < (0 : Int))) = true →
 ((opAt x.1 g.2.2.2.2.2.2.1).1 == (6 : Int) && !decide ((opAt x.1 g.2.2.2.2.2.2.1).2.2.2.2.2.2 < (0 : Int))) = true) ∧
 (((opAt x.1 g.2.2.2.2.2.2.1).1 == (6 : Int)) = true →
 ((opAt x.1 g.2.2.2.2.2.2.1).1 == (6 : Int)) = true ∧
 (decide ((opAt x.1 g.2.2.2.2.2.2.1).2.2.2.2.2.2 < (0 : Int)) = false →
 ((opAt x.1 g.2.2.2.2.2.2.1).1 == (6 : Int) && !decide ((opAt x.1 g.2.2.2.2.2.2.1).2.2.2.2.2.2 < (0 : Int))) = true)) ∧
 (((opAt x.1 g.2.2.2.2.2.2.1).1 == (6 : Int)) = true →
 ((opAt x.1 g.2.2.2.2.2.2.1).1 == (6 : Int)) = true) ∧
 (((opAt x.1 g.2.2.2.2.2.2.1).1 == (6 : Int) && (decide ((opAt x.1 g.2.2.2.2.2.2.1).2.2.2.2.2.2 < (0 : Int)) || decide ((1099511627776 : Int) < (opAt x.1 g.2.2.2.2.2.2.1).2.2.2.2.2.2))) = true →
 (doV (g.1, g.2.1, g.2.2.1, g.2.2.2.1, g.2.2.2.2.1) (decide ((0 : Int) ≤ (opAt x.1 g.2.2.2.2.2.2.1).2.1) && decide ((opAt x.1 g.2.2.2.2.2.2.1).2.1 < (4 : Int)) && g.2.1.getD (opAt x.1 g.2.2.2.2.2.2.1).2.1.toNat false) g_1.1 ((opAt x.1 g.2.2.2.2.2.2.1).1, (opAt x.1 g.2.2.2.2.2.2.1).2.1, (opAt x.1 g.2.2.2.2.2.2.1).2.2.1, (opAt x.1 g.2.2.2.2.2.2.1).2.2.2.1, (opAt x.1 g.2.2.2.2.2.2.1).2.2.2.2.1, (opAt x.1 g.2.2.2.2.2.2.1).2.2.2.2.2.1, (opAt x.1 g.2.2.2.2.2.2.1).2.2.2.2.2.2) = ((g.1, g.2.1, g.2.2.1, g.2.2.2.1, g.2.2.2.2.1), (2 : Int), (0 : Int)) ∧
 True) ∧
 ((True ∧
 True) ∧
 (True ∧
 True) ∧
 (True ∧
 True) ∧
 True ∧
 True ∧
 True ∧
 True ∧
 True ∧
 (True ∧
 True) ∧
 x.1 = x.1 ∧
 RR (↑x.1.length : Int) ∧
 RR g.2.2.2.2.2.2.1 ∧
 True) ∧
 ((g.1 = g.1 ∧
 True) ∧
 (g.2.1 = g.2.1 ∧
 True) ∧
 g.2.2.1 = g.2.2.1 ∧
 RR g.2.2.2.1 ∧
 RR g.2.2.2.2.1 ∧
 (RR (2 : Int) ∧
 RR (0 : Int) ∧
 True) ∧
 (Z64 = Z64 ∧
 True) ∧
 (True ∧
 (True ∧
 True) ∧
 True) ∧
 RR g.2.2.2.2.2.1 ∧
 True) ∧
 True) ∧
 (((opAt x.1 g.2.2.2.2.2.2.1).1 == (6 : Int) && (decide ((opAt x.1 g.2.2.2.2.2.2.1).2.2.2.2.2.2 < (0 : Int)) || decide ((1099511627776 : Int) < (opAt x.1 g.2.2.2.2.2.2.1).2.2.2.2.2.2))) = false →
 (((opAt x.1 g.2.2.2.2.2.2.1).1 == (5 : Int)) = true →
 ((opAt x.1 g.2.2.2.2.2.2.1).1 == (5 : Int)) = true) ∧
 (((opAt x.1 g.2.2.2.2.2.2.1).1 == (5 : Int)) = true →
 ((opAt x.1 g.2.2.2.2.2.2.1).1 == (5 : Int)) = true) ∧
 (((opAt x.1 g.2.2.2.2.2.2.1).1 == (5 : Int)) = true →
 ((opAt x.1 g.2.2.2.2.2.2.1).1 == (5 : Int)) = true) ∧
 (((opAt x.1 g.2.2.2.2.2.2.1).1 == (5 : Int) && decide ((opAt x.1 g.2.2.2.2.2.2.1).2.2.2.2.2.2 < (1 : Int))) = true →
 (doV (g.1, g.2.1, g.2.2.1, g.2.2.2.1, g.2.2.2.2.1) (decide ((0 : Int) ≤ (opAt x.1 g.2.2.2.2.2.2.1).2.1) && decide ((opAt x.1 g.2.2.2.2.2.2.1).2.1 < (4 : Int)) && g.2.1.getD (opAt x.1 g.2.2.2.2.2.2.1).2.1.toNat false) g_1.1 ((opAt x.1 g.2.2.2.2.2.2.1).1, (opAt x.1 g.2.2.2.2.2.2.1).2.1, (opAt x.1 g.2.2.2.2.2.2.1).2.2.1, (opAt x.1 g.2.2.2.2.2.2.1).2.2.2.1, (opAt x.1 g.2.2.2.2.2.2.1).2.2.2.2.1, (opAt x.1 g.2.2.2.2.2.2.1).2.2.2.2.2.1, (opAt x.1 g.2.2.2.2.2.2.1).2.2.2.2.2.2) = ((g.1, g.2.1, g.2.2.1, g.2.2.2.1, g.2.2.2.2.1), (2 : Int), (0 : Int)) ∧
 True) ∧
 ((True ∧
 True) ∧
 (True ∧
 True) ∧
 (True ∧
 True) ∧
 True ∧
 True ∧
 True ∧
 True ∧
 True ∧
 (True ∧
 True) ∧
 x.1 = x.1 ∧
 RR (↑x.1.length : Int) ∧
 RR g.2.2.2.2.2.2.1 ∧
 True) ∧
 ((g.1 = g.1 ∧
 True) ∧
 (g.2.1 = g.2.1 ∧
 True) ∧
 g.2.2.1 = g.2.2.1 ∧
 RR g.2.2.2.1 ∧
 RR g.2.2.2.2.1 ∧
 (RR (2 : Int) ∧
 RR (0 : Int) ∧
 True) ∧
 (Z64 = Z64 ∧
 True) ∧
 (True ∧
 (True ∧
 True) ∧
 True) ∧
 RR g.2.2.2.2.2.1 ∧
 True) ∧
 True) ∧
 (((opAt x.1 g.2.2.2.2.2.2.1).1 == (5 : Int) && decide ((opAt x.1 g.2.2.2.2.2.2.1).2.2.2.2.2.2 < (1 : Int))) = false →
 (((opAt x.1 g.2.2.2.2.2.2.1).1 == (3 : Int)) = true →
 ((-9223372036854775808 : Int) ≤ g_1.1 + (1 : Int) ∧
 g_1.1 + (1 : Int) ≤ (9223372036854775807 : Int)) ∧
 ((0 : Int) ≤ (opAt x.1 g.2.2.2.2.2.2.1).2.1 ∧
 (opAt x.1 g.2.2.2.2.2.2.1).2.1 < (↑(4 : Nat) : Int)) ∧
 ((0 : Int) ≤ (opAt x.1 g.2.2.2.2.2.2.1).2.2.2.2.2.1 ∧
 (opAt x.1 g.2.2.2.2.2.2.1).2.2.2.2.2.1 < (↑(16 : Nat) : Int)) ∧
 (doV (g.1, g.2.1, g.2.2.1, g.2.2.2.1, g.2.2.2.2.1) (decide ((0 : Int) ≤ (opAt x.1 g.2.2.2.2.2.2.1).2.1) && decide ((opAt x.1 g.2.2.2.2.2.2.1).2.1 < (4 : Int)) && g.2.1.getD (opAt x.1 g.2.2.2.2.2.2.1).2.1.toNat false) g_1.1 ((opAt x.1 g.2.2.2.2.2.2.1).1, (opAt x.1 g.2.2.2.2.2.2.1).2.1, (opAt x.1 g.2.2.2.2.2.2.1).2.2.1, (opAt x.1 g.2.2.2.2.2.2.1).2.2.2.1, (opAt x.1 g.2.2.2.2.2.2.1).2.2.2.2.1, (opAt x.1 g.2.2.2.2.2.2.1).2.2.2.2.2.1, (opAt x.1 g.2.2.2.2.2.2.1).2.2.2.2.2.2) = ((g.1.set (opAt x.1 g.2.2.2.2.2.2.1).2.1.toNat ((g.1.getD (opAt x.1 g.2.2.2.2.2.2.1).2.1.toNat Z16).set (opAt x.1 g.2.2.2.2.2.2.1).2.2.2.2.2.1.toNat (g_1.1 + (1 : Int))), g.2.1, g.2.2.1, g.2.2.2.1, g.2.2.2.2.1), (0 : Int), (opAt x.1 g.2.2.2.2.2.2.1).2.2.2.2.2.1) ∧
 True) ∧
 ((True ∧
 True) ∧
 (True ∧
 True) ∧
 (True ∧
 True) ∧
 True ∧
 True ∧
 True ∧
 True ∧
 True ∧
 (True ∧
 True) ∧
 x.1 = x.1 ∧
 RR (↑x.1.length : Int) ∧
 RR g.2.2.2.2.2.2.1 ∧
 True) ∧
 ((RR (g.1.set (opAt x.1 g.2.2.2.2.2.2.1).2.1.toNat ((g.1.getD (opAt x.1 g.2.2.2.2.2.2.1).2.1.toNat Z16).set (opAt x.1 g.2.2.2.2.2.2.1).2.2.2.2.2.1.toNat (g_1.1 + (1 : Int)))) ∧
 True) ∧
 (g.2.1 = g.2.1 ∧
 True) ∧
 g.2.2.1 = g.2.2.1 ∧
 RR g.2.2.2.1 ∧
 RR g.2.2.2.2.1 ∧
 (RR (0 : Int) ∧
 RR ((opAt x.1 g.2.2.2.2.2.2.1).2.2.2.2.2.1) ∧
 True) ∧
 (Z64 = Z64 ∧
 True) ∧
 (True ∧
 (True ∧
 True) ∧
 True) ∧
 RR g.2.2.2.2.2.1 ∧
 True) ∧
 True) ∧
 (((opAt x.1 g.2.2.2.2.2.2.1).1 == (3 : Int)) = false →
 (((opAt x.1 g.2.2.2.2.2.2.1).1 == (4 : Int)) = true →
 ((0 : Int) ≤ (opAt x.1 g.2.2.2.2.2.2.1).2.1 ∧
 (opAt x.1 g.2.2.2.2.2.2.1).2.1 < (↑(4 : Nat) : Int)) ∧
 ((0 : Int) ≤ (opAt x.1 g.2.2.2.2.2.2.1).2.2.2.2.1 ∧
 (opAt x.1 g.2.2.2.2.2.2.1).2.2.2.2.1 < (↑(16 : Nat) : Int)) ∧
 ((((0 : Int) ≤ (0 : Int) ∧
 (0 : Int) ≤ (4 : Int) ∧
 RR (0 : Int) ∧
 (0 : Int) = cntM (g_1.1 + (1 : Int)) (List.take (Int.toNat (0 : Int)) (g.1.set (opAt x.1 g.2.2.2.2.2.2.1).2.1.toNat ((g.1.getD (opAt x.1 g.2.2.2.2.2.2.1).2.1.toNat Z16).set (opAt x.1 g.2.2.2.2.2.2.1).2.2.2.2.1.toNat (0 : Int))))) ∧
 True) ∧
 ((True ∧
 True) ∧
 (True ∧
 True) ∧
 (True ∧
 True) ∧
 True ∧
 True ∧
 True ∧
 True ∧
 True ∧
 (True ∧
 True) ∧
 g_1.1 = g_1.1 ∧
 x.1 = x.1 ∧
 RR (↑x.1.length : Int) ∧
 RR g.2.2.2.2.2.2.1 ∧
 (RR (g.1.set (opAt x.1 g.2.2.2.2.2.2.1).2.1.toNat ((g.1.getD (opAt x.1 g.2.2.2.2.2.2.1).2.1.toNat Z16).set (opAt x.1 g.2.2.2.2.2.2.1).2.2.2.2.1.toNat (0 : Int))) ∧
 True) ∧
 RR (0 : Int) ∧
 True) ∧
 ((RR (0 : Int) ∧
 RR (0 : Int) ∧
 True) ∧
 (Z64 = Z64 ∧
 True) ∧
 (RR (g.1.set (opAt x.1 g.2.2.2.2.2.2.1).2.1.toNat ((g.1.getD (opAt x.1 g.2.2.2.2.2.2.1).2.1.toNat Z16).set (opAt x.1 g.2.2.2.2.2.2.1).2.2.2.2.1.toNat (0 : Int))) ∧
 True) ∧
 (g.2.1 = g.2.1 ∧
 True) ∧
 g.2.2.1 = g.2.2.1 ∧
 RR g.2.2.2.1 ∧
 RR g.2.2.2.2.1 ∧
 (True ∧
 (True ∧
 True) ∧
 True) ∧
 RR g.2.2.2.2.2.1 ∧
 True) ∧
 True) ∧
 ∀ (g_2 : (Int × Int) × Int × Unit), (0 : Int) ≤ g_2.2.1 ∧
 g_2.2.1 ≤ (4 : Int) ∧
 g_2.1.1 = (0 : Int) ∧
 g_2.1.2 = cntM (g_1.1 + (1 : Int)) (List.take g_2.2.1.toNat (g.1.set (opAt x.1 g.2.2.2.2.2.2.1).2.1.toNat ((g.1.getD (opAt x.1 g.2.2.2.2.2.2.1).2.1.toNat Z16).set (opAt x.1 g.2.2.2.2.2.2.1).2.2.2.2.1.toNat (0 : Int)))) →
 (((-9223372036854775808 : Int) ≤ g_2.1.1 ∧
 g_2.1.1 ≤ (9223372036854775807 : Int)) ∧
 (-9223372036854775808 : Int) ≤ g_2.1.2 ∧
 g_2.1.2 ≤ (9223372036854775807 : Int)) ∧
 ((-9223372036854775808 : Int) ≤ g_2.2.1 ∧
 g_2.2.1 ≤ (9223372036854775807 : Int)) ∧
 True →
 (decide (g_2.2.1 < (4 : Int)) = true →
 ((0 : Int) ≤ g_2.2.1 ∧
 g_2.2.1 < (↑(4 : Nat) : Int)) ∧
 ((((0 : Int) ≤ (0 : Int) ∧
 (0 : Int) ≤ (16 : Int) ∧
 g_2.1.1 = (0 : Int) ∧
 g_2.1.2 = cntM (g_1.1 + (1 : Int)) (List.take g_2.2.1.toNat (g.1.set (opAt x.1 g.2.2.2.2.2.2.1).2.1.toNat ((g.1.getD (opAt x.1 g.2.2.2.2.2.2.1).2.1.toNat Z16).set (opAt x.1 g.2.2.2.2.2.2.1).2.2.2.2.1.toNat (0 : Int)))) + cnt (g_1.1 + (1 : Int)) (List.take (Int.toNat (0 : Int)) ((g.1.set (opAt x.1 g.2.2.2.2.2.2.1).2.1.toNat ((g.1.getD (opAt x.1 g.2.2.2.2.2.2.1).2.1.toNat Z16).set (opAt x.1 g.2.2.2.2.2.2.1).2.2.2.2.1.toNat (0 : Int))).getD g_2.2.1.toNat Z16))) ∧
 True) ∧
 ((True ∧
 True) ∧
 (True ∧
 True) ∧
 (True ∧
 True) ∧
 True ∧
 True ∧
 True ∧
 True ∧
 True ∧
 (True ∧
 True) ∧
 g_1.1 = g_1.1 ∧
 x.1 = x.1 ∧
 RR (↑x.1.length : Int) ∧
 RR g.2.2.2.2.2.2.1 ∧
 (RR (g.1.set (opAt x.1 g.2.2.2.2.2.2.1).2.1.toNat ((g.1.getD (opAt x.1 g.2.2.2.2.2.2.1).2.1.toNat Z16).set (opAt x.1 g.2.2.2.2.2.2.1).2.2.2.2.1.toNat (0 : Int))) ∧
 True) ∧
 g_2.2.1 = g_2.2.1 ∧
 (RR ((g.1.set (opAt x.1 g.2.2.2.2.2.2.1).2.1.toNat ((g.1.getD (opAt x.1 g.2.2.2.2.2.2.1).2.1.toNat Z16).set (opAt x.1 g.2.2.2.2.2.2.1).2.2.2.2.1.toNat (0 : Int))).getD g_2.2.1.toNat Z16) ∧
 True) ∧
 RR (0 : Int) ∧
 True) ∧
 ((g_2.1.1 = g_2.1.1 ∧
 g_2.1.2 = g_2.1.2 ∧
 True) ∧
 (Z64 = Z64 ∧
 True) ∧
 (RR (g.1.set (opAt x.1 g.2.2.2.2.2.2.1).2.1.toNat ((g.1.getD (opAt x.1 g.2.2.2.2.2.2.1).2.1.toNat Z16).set (opAt x.1 g.2.2.2.2.2.2.1).2.2.2.2.1.toNat (0 : Int))) ∧
 True) ∧
 (g.2.1 = g.2.1 ∧
 True) ∧
 g.2.2.1 = g.2.2.1 ∧
 RR g.2.2.2.1 ∧
 RR g.2.2.2.2.1 ∧
 (True ∧
 (True ∧
 True) ∧
 True) ∧
 RR g.2.2.2.2.2.1 ∧
 True) ∧
 True) ∧
 ∀ (g_3 : (Int × Int) × Int × Unit), (0 : Int) ≤ g_3.2.1 ∧
 g_3.2.1 ≤ (16 : Int) ∧
 g_3.1.1 = (0 : Int) ∧
 g_3.1.2 = cntM (g_1.1 + (1 : Int)) (List.take g_2.2.1.toNat (g.1.set (opAt x.1 g.2.2.2.2.2.2.1).2.1.toNat ((g.1.getD (opAt x.1 g.2.2.2.2.2.2.1).2.1.toNat Z16).set (opAt x.1 g.2.2.2.2.2.2.1).2.2.2.2.1.toNat (0 : Int)))) + cnt (g_1.1 + (1 : Int)) (List.take g_3.2.1.toNat ((g.1.set (opAt x.1 g.2.2.2.2.2.2.1).2.1.toNat ((g.1.getD (opAt x.1 g.2.2.2.2.2.2.1).2.1.toNat Z16).set (opAt x.1 g.2.2.2.2.2.2.1).2.2.2.2.1.toNat (0 : Int))).getD g_2.2.1.toNat Z16)) →
 (((-9223372036854775808 : Int) ≤ g_3.1.1 ∧
 g_3.1.1 ≤ (9223372036854775807 : Int)) ∧
 (-9223372036854775808 : Int) ≤ g_3.1.2 ∧
 g_3.1.2 ≤ (9223372036854775807 : Int)) ∧
 ((-9223372036854775808 : Int) ≤ g_3.2.1 ∧
 g_3.2.1 ≤ (9223372036854775807 : Int)) ∧
 True →
 (decide (g_3.2.1 < (16 : Int)) = true →
 ((0 : Int) ≤ g_3.2.1 ∧
 g_3.2.1 < (↑(16 : Nat) : Int)) ∧
 ((-9223372036854775808 : Int) ≤ g_1.1 + (1 : Int) ∧
 g_1.1 + (1 : Int) ≤ (9223372036854775807 : Int)) ∧
 ((((g.1.set (opAt x.1 g.2.2.2.2.2.2.1).2.1.toNat ((g.1.getD (opAt x.1 g.2.2.2.2.2.2.1).2.1.toNat Z16).set (opAt x.1 g.2.2.2.2.2.2.1).2.2.2.2.1.toNat (0 : Int))).getD g_2.2.1.toNat Z16).getD g_3.2.1.toNat (0 : Int) == g_1.1 + (1 : Int)) = true →
 ((-9223372036854775808 : Int) ≤ g_3.1.2 + (1 : Int) ∧
 g_3.1.2 + (1 : Int) ≤ (9223372036854775807 : Int)) ∧
 ((-9223372036854775808 : Int) ≤ g_3.2.1 + (1 : Int) ∧
 g_3.2.1 + (1 : Int) ≤ (9223372036854775807 : Int)) ∧
 (((0 : Int) ≤ g_3.2.1 + (1 : Int) ∧
 g_3.2.1 + (1 : Int) ≤ (16 : Int) ∧
 g_3.1.1 = (0 : Int) ∧
 g_3.1.2 + (1 : Int) = cntM (g_1.1 + (1 : Int)) (List.take g_2.2.1.toNat (g.1.set (opAt x.1 g.2.2.2.2.2.2.1).2.1.toNat ((g.1.getD (opAt x.1 g.2.2.2.2.2.2.1).2.1.toNat Z16).set (opAt x.1 g.2.2.2.2.2.2.1).2.2.2.2.1.toNat (0 : Int)))) + cnt (g_1.1 + (1 : Int)) (List.take (g_3.2.1 + (1 : Int)).toNat ((g.1.set (opAt x.1 g.2.2.2.2.2.2.1).2.1.toNat ((g.1.getD (opAt x.1 g.2.2.2.2.2.2.1).2.1.toNat Z16).set (opAt x.1 g.2.2.2.2.2.2.1).2.2.2.2.1.toNat (0 : Int))).getD g_2.2.1.toNat Z16))) ∧
 ((16 : Int) - (g_3.2.1 + (1 : Int))).toNat < ((16 : Int) - g_3.2.1).toNat) ∧
 ((True ∧
 True) ∧
 (True ∧
 True) ∧
 (True ∧
 True) ∧
 True ∧
 True ∧
 True ∧
 True ∧
 True ∧
 (True ∧
 True) ∧
 g_1.1 = g_1.1 ∧
 x.1 = x.1 ∧
 RR (↑x.1.length : Int) ∧
 RR g.2.2.2.2.2.2.1 ∧
 (RR (g.1.set (opAt x.1 g.2.2.2.2.2.2.1).2.1.toNat ((g.1.getD (opAt x.1 g.2.2.2.2.2.2.1).2.1.toNat Z16).set (opAt x.1 g.2.2.2.2.2.2.1).2.2.2.2.1.toNat (0 : Int))) ∧
 True) ∧
 g_2.2.1 = g_2.2.1 ∧
 (RR ((g.1.set (opAt x.1 g.2.2.2.2.2.2.1).2.1.toNat ((g.1.getD (opAt x.1 g.2.2.2.2.2.2.1).2.1.toNat Z16).set (opAt x.1 g.2.2.2.2.2.2.1).2.2.2.2.1.toNat (0 : Int))).getD g_2.2.1.toNat Z16) ∧
 True) ∧
 g_3.2.1 + (1 : Int) = g_3.2.1 + (1 : Int) ∧
 True) ∧
 ((g_3.1.1 = g_3.1.1 ∧
 g_3.1.2 + (1 : Int) = g_3.1.2 + (1 : Int) ∧
 True) ∧
 (Z64 = Z64 ∧
 True) ∧
 (RR (g.1.set (opAt x.1 g.2.2.2.2.2.2.1).2.1.toNat ((g.1.getD (opAt x.1 g.2.2.2.2.2.2.1).2.1.toNat Z16).set (opAt x.1 g.2.2.2.2.2.2.1).2.2.2.2.1.toNat (0 : Int))) ∧
 True) ∧
 (g.2.1 = g.2.1 ∧
 True) ∧
 g.2.2.1 = g.2.2.1 ∧
 RR g.2.2.2.1 ∧
 RR g.2.2.2.2.1 ∧
 (True ∧
 (True ∧
 True) ∧
 True) ∧
 RR g.2.2.2.2.2.1 ∧
 True) ∧
 True) ∧
 ((((g.1.set (opAt x.1 g.2.2.2.2.2.2.1).2.1.toNat ((g.1.getD (opAt x.1 g.2.2.2.2.2.2.1).2.1.toNat Z16).set (opAt x.1 g.2.2.2.2.2.2.1).2.2.2.2.1.toNat (0 : Int))).getD g_2.2.1.toNat Z16).getD g_3.2.1.toNat (0 : Int) == g_1.1 + (1 : Int)) = false →
 ((-9223372036854775808 : Int) ≤ g_3.2.1 + (1 : Int) ∧
 g_3.2.1 + (1 : Int) ≤ (9223372036854775807 : Int)) ∧
 (((0 : Int) ≤ g_3.2.1 + (1 : Int) ∧
 g_3.2.1 + (1 : Int) ≤ (16 : Int) ∧
 g_3.1.1 = (0 : Int) ∧
 g_3.1.2 = cntM (g_1.1 + (1 : Int)) (List.take g_2.2.1.toNat (g.1.set (opAt x.1 g.2.2.2.2.2.2.1).2.1.toNat ((g.1.getD (opAt x.1 g.2.2.2.2.2.2.1).2.1.toNat Z16).set (opAt x.1 g.2.2.2.2.2.2.1).2.2.2.2.1.toNat (0 : Int)))) + cnt (g_1.1 + (1 : Int)) (List.take (g_3.2.1 + (1 : Int)).toNat ((g.1.set (opAt x.1 g.2.2.2.2.2.2.1).2.1.toNat ((g.1.getD (opAt x.1 g.2.2.2.2.2.2.1).2.1.toNat Z16).set (opAt x.1 g.2.2.2.2.2.2.1).2.2.2.2.1.toNat (0 : Int))).getD g_2.2.1.toNat Z16))) ∧
 ((16 : Int) - (g_3.2.1 + (1 : Int))).toNat < ((16 : Int) - g_3.2.1).toNat) ∧
 ((True ∧
 True) ∧
 (True ∧
 True) ∧
 (True ∧
 True) ∧
 True ∧
 True ∧
 True ∧
 True ∧
 True ∧
 (True ∧
 True) ∧
 g_1.1 = g_1.1 ∧
 x.1 = x.1 ∧
 RR (↑x.1.length : Int) ∧
 RR g.2.2.2.2.2.2.1 ∧
 (RR (g.1.set (opAt x.1 g.2.2.2.2.2.2.1).2.1.toNat ((g.1.getD (opAt x.1 g.2.2.2.2.2.2.1).2.1.toNat Z16).set (opAt x.1 g.2.2.2.2.2.2.1).2.2.2.2.1.toNat (0 : Int))) ∧
 True) ∧
 g_2.2.1 = g_2.2.1 ∧
 (RR ((g.1.set (opAt x.1 g.2.2.2.2.2.2.1).2.1.toNat ((g.1.getD (opAt x.1 g.2.2.2.2.2.2.1).2.1.toNat Z16).set (opAt x.1 g.2.2.2.2.2.2.1).2.2.2.2.1.toNat (0 : Int))).getD g_2.2.1.toNat Z16) ∧
 True) ∧
 g_3.2.1 + (1 : Int) = g_3.2.1 + (1 : Int) ∧
 True) ∧
 ((g_3.1.1 = g_3.1.1 ∧
 g_3.1.2 = g_3.1.2 ∧
 True) ∧
 (Z64 = Z64 ∧
 True) ∧
 (RR (g.1.set (opAt x.1 g.2.2.2.2.2.2.1).2.1.toNat ((g.1.getD (opAt x.1 g.2.2.2.2.2.2.1).2.1.toNat Z16).set (opAt x.1 g.2.2.2.2.2.2.1).2.2.2.2.1.toNat (0 : Int))) ∧
 True) ∧
 (g.2.1 = g.2.1 ∧
 True) ∧
 g.2.2.1 = g.2.2.1 ∧
 RR g.2.2.2.1 ∧
 RR g.2.2.2.2.1 ∧
 (True ∧
 (True ∧
 True) ∧
 True) ∧
 RR g.2.2.2.2.2.1 ∧
 True) ∧
 True)) ∧
 (decide (g_3.2.1 < (16 : Int)) = false →
 ((-9223372036854775808 : Int) ≤ g_2.2.1 + (1 : Int) ∧
 g_2.2.1 + (1 : Int) ≤ (9223372036854775807 : Int)) ∧
 (((0 : Int) ≤ g_2.2.1 + (1 : Int) ∧
 g_2.2.1 + (1 : Int) ≤ (4 : Int) ∧
 g_3.1.1 = (0 : Int) ∧
 g_3.1.2 = cntM (g_1.1 + (1 : Int)) (List.take (g_2.2.1 + (1 : Int)).toNat (g.1.set (opAt x.1 g.2.2.2.2.2.2.1).2.1.toNat ((g.1.getD (opAt x.1 g.2.2.2.2.2.2.1).2.1.toNat Z16).set (opAt x.1 g.2.2.2.2.2.2.1).2.2.2.2.1.toNat (0 : Int))))) ∧
 ((4 : Int) - (g_2.2.1 + (1 : Int))).toNat < ((4 : Int) - g_2.2.1).toNat) ∧
 ((True ∧
 True) ∧
 (True ∧
 True) ∧
 (True ∧
 True) ∧
 True ∧
 True ∧
 True ∧
 True ∧
 True ∧
 (True ∧
 True) ∧
 g_1.1 = g_1.1 ∧
 x.1 = x.1 ∧
 RR (↑x.1.length : Int) ∧
 RR g.2.2.2.2.2.2.1 ∧
 (RR (g.1.set (opAt x.1 g.2.2.2.2.2.2.1).2.1.toNat ((g.1.getD (opAt x.1 g.2.2.2.2.2.2.1).2.1.toNat Z16).set (opAt x.1 g.2.2.2.2.2.2.1).2.2.2.2.1.toNat (0 : Int))) ∧
 True) ∧
 g_2.2.1 + (1 : Int) = g_2.2.1 + (1 : Int) ∧
 True) ∧
 ((g_3.1.1 = g_3.1.1 ∧
 g_3.1.2 = g_3.1.2 ∧
 True) ∧
 (Z64 = Z64 ∧
 True) ∧
 (RR (g.1.set (opAt x.1 g.2.2.2.2.2.2.1).2.1.toNat ((g.1.getD (opAt x.1 g.2.2.2.2.2.2.1).2.1.toNat Z16).set (opAt x.1 g.2.2.2.2.2.2.1).2.2.2.2.1.toNat (0 : Int))) ∧
 True) ∧
 (g.2.1 = g.2.1 ∧
 True) ∧
 g.2.2.1 = g.2.2.1 ∧
 RR g.2.2.2.1 ∧
 RR g.2.2.2.2.1 ∧
 (True ∧
 (True ∧
 True) ∧
 True) ∧
 RR g.2.2.2.2.2.1 ∧
 True) ∧
 True)) ∧
 (decide (g_2.2.1 < (4 : Int)) = false →
 (doV (g.1, g.2.1, g.2.2.1, g.2.2.2.1, g.2.2.2.2.1) (decide ((0 : Int) ≤ (opAt x.1 g.2.2.2.2.2.2.1).2.1) && decide ((opAt x.1 g.2.2.2.2.2.2.1).2.1 < (4 : Int)) && g.2.1.getD (opAt x.1 g.2.2.2.2.2.2.1).2.1.toNat false) g_1.1 ((opAt x.1 g.2.2.2.2.2.2.1).1, (opAt x.1 g.2.2.2.2.2.2.1).2.1, (opAt x.1 g.2.2.2.2.2.2.1).2.2.1, (opAt x.1 g.2.2.2.2.2.2.1).2.2.2.1, (opAt x.1 g.2.2.2.2.2.2.1).2.2.2.2.1, (opAt x.1 g.2.2.2.2.2.2.1).2.2.2.2.2.1, (opAt x.1 g.2.2.2.2.2.2.1).2.2.2.2.2.2) = ((g.1.set (opAt x.1 g.2.2.2.2.2.2.1).2.1.toNat ((g.1.getD (opAt x.1 g.2.2.2.2.2.2.1).2.1.toNat Z16).set (opAt x.1 g.2.2.2.2.2.2.1).2.2.2.2.1.toNat (0 : Int)), g.2.1, g.2.2.1, g.2.2.2.1, g.2.2.2.2.1), g_2.1.1, g_2.1.2) ∧
 True) ∧
 ((True ∧
 True) ∧
 (True ∧
 True) ∧
 (True ∧
 True) ∧
 True ∧
 True ∧
 True ∧
 True ∧
 True ∧
 (True ∧
 True) ∧
 x.1 = x.1 ∧
 RR (↑x.1.length : Int) ∧
 RR g.2.2.2.2.2.2.1 ∧
 True) ∧
 ((RR (g.1.set (opAt x.1 g.2.2.2.2.2.2.1).2.1.toNat ((g.1.getD (opAt x.1 g.2.2.2.2.2.2.1).2.1.toNat Z16).set (opAt x.1 g.2.2.2.2.2.2.1).2.2.2.2.1.toNat (0 : Int))) ∧
 True) ∧
 (g.2.1 = g.2.1 ∧
 True) ∧
 g.2.2.1 = g.2.2.1 ∧
 RR g.2.2.2.1 ∧
 RR g.2.2.2.2.1 ∧
 (g_2.1.1 = g_2.1.1 ∧
 g_2.1.2 = g_2.1.2 ∧
 True) ∧
 (Z64 = Z64 ∧
 True) ∧
 (True ∧
 (True ∧
 True) ∧
 True) ∧
 RR g.2.2.2.2.2.1 ∧
 True) ∧
 True)) ∧
 (((opAt x.1 g.2.2.2.2.2.2.1).1 == (4 : Int)) = false →
 (((opAt x.1 g.2.2.2.2.2.2.1).1 == (6 : Int)) = true →
 ((0 : Int) ≤ g_1.1 ∧
 g_1.1 < (↑g.2.2.2.2.1.length : Int)) ∧
 (doV (g.1, g.2.1, g.2.2.1, g.2.2.2.1, g.2.2.2.2.1) (decide ((0 : Int) ≤ (opAt x.1 g.2.2.2.2.2.2.1).2.1) && decide ((opAt x.1 g.2.2.2.2.2.2.1).2.1 < (4 : Int)) && g.2.1.getD (opAt x.1 g.2.2.2.2.2.2.1).2.1.toNat false) g_1.1 ((opAt x.1 g.2.2.2.2.2.2.1).1, (opAt x.1 g.2.2.2.2.2.2.1).2.1, (opAt x.1 g.2.2.2.2.2.2.1).2.2.1, (opAt x.1 g.2.2.2.2.2.2.1).2.2.2.1, (opAt x.1 g.2.2.2.2.2.2.1).2.2.2.2.1, (opAt x.1 g.2.2.2.2.2.2.1).2.2.2.2.2.1, (opAt x.1 g.2.2.2.2.2.2.1).2.2.2.2.2.2) = ((g.1, g.2.1, g.2.2.1, g.2.2.2.1, g.2.2.2.2.1.set g_1.1.toNat (opAt x.1 g.2.2.2.2.2.2.1).2.2.2.2.2.2), (0 : Int), (opAt x.1 g.2.2.2.2.2.2.1).2.2.2.2.2.2) ∧
 True) ∧
 ((True ∧
 True) ∧
 (True ∧
 True) ∧
 (True ∧
 True) ∧
 True ∧
 True ∧
 True ∧
 True ∧
 True ∧
 (True ∧
 True) ∧
 x.1 = x.1 ∧
 RR (↑x.1.length : Int) ∧
 RR g.2.2.2.2.2.2.1 ∧
 True) ∧
 ((g.1 = g.1 ∧
 True) ∧
 (g.2.1 = g.2.1 ∧
 True) ∧
 g.2.2.1 = g.2.2.1 ∧
 RR g.2.2.2.1 ∧
 RR (g.2.2.2.2.1.set g_1.1.toNat (opAt x.1 g.2.2.2.2.2.2.1).2.2.2.2.2.2) ∧
 (RR (0 : Int) ∧
 RR ((opAt x.1 g.2.2.2.2.2.2.1).2.2.2.2.2.2) ∧
 True) ∧
 (Z64 = Z64 ∧
 True) ∧
 (True ∧
 (True ∧
 True) ∧
 True) ∧
 RR g.2.2.2.2.2.1 ∧
 True) ∧
 True) ∧
 (((opAt x.1 g.2.2.2.2.2.2.1).1 == (6 : Int)) = false →
 ((0 : Int) ≤ g_1.1 ∧
 g_1.1 < (↑g.2.2.2.1.length : Int)) ∧
 ((0 : Int) ≤ g_1.1 ∧
 g_1.1 < (↑g.2.2.2.2.1.length : Int)) ∧
 ((-9223372036854775808 : Int) ≤ g.2.2.2.1.getD g_1.1.toNat (0 : Int) - g.2.2.2.2.1.getD g_1.1.toNat (0 : Int) ∧
 g.2.2.2.1.getD g_1.1.toNat (0 : Int) - g.2.2.2.2.1.getD g_1.1.toNat (0 : Int) ≤ (9223372036854775807 : Int)) ∧
 (decide ((0 : Int) < g.2.2.2.1.getD g_1.1.toNat (0 : Int) - g.2.2.2.2.1.getD g_1.1.toNat (0 : Int)) = true →
 ((0 : Int) ≤ g_1.1 ∧
 g_1.1 < (↑g.2.2.2.2.1.length : Int)) ∧
 ((-9223372036854775808 : Int) ≤ g.2.2.2.2.1.getD g_1.1.toNat (0 : Int) + min (g.2.2.2.1.getD g_1.1.toNat (0 : Int) - g.2.2.2.2.1.getD g_1.1.toNat (0 : Int)) (opAt x.1 g.2.2.2.2.2.2.1).2.2.2.2.2.2 ∧
 g.2.2.2.2.1.getD g_1.1.toNat (0 : Int) + min (g.2.2.2.1.getD g_1.1.toNat (0 : Int) - g.2.2.2.2.1.getD g_1.1.toNat (0 : Int)) (opAt x.1 g.2.2.2.2.2.2.1).2.2.2.2.2.2 ≤ (9223372036854775807 : Int)) ∧
 ((0 : Int) ≤ g_1.1 ∧
 g_1.1 < (↑g.2.2.2.2.1.length : Int)) ∧
 (doV (g.1, g.2.1, g.2.2.1, g.2.2.2.1, g.2.2.2.2.1) (decide ((0 : Int) ≤ (opAt x.1 g.2.2.2.2.2.2.1).2.1) && decide ((opAt x.1 g.2.2.2.2.2.2.1).2.1 < (4 : Int)) && g.2.1.getD (opAt x.1 g.2.2.2.2.2.2.1).2.1.toNat false) g_1.1 ((opAt x.1 g.2.2.2.2.2.2.1).1, (opAt x.1 g.2.2.2.2.2.2.1).2.1, (opAt x.1 g.2.2.2.2.2.2.1).2.2.1, (opAt x.1 g.2.2.2.2.2.2.1).2.2.2.1, (opAt x.1 g.2.2.2.2.2.2.1).2.2.2.2.1, (opAt x.1 g.2.2.2.2.2.2.1).2.2.2.2.2.1, (opAt x.1 g.2.2.2.2.2.2.1).2.2.2.2.2.2) = ((g.1, g.2.1, g.2.2.1, g.2.2.2.1, g.2.2.2.2.1.set g_1.1.toNat (g.2.2.2.2.1.getD g_1.1.toNat (0 : Int) + min (g.2.2.2.1.getD g_1.1.toNat (0 : Int) - g.2.2.2.2.1.getD g_1.1.toNat (0 : Int)) (opAt x.1 g.2.2.2.2.2.2.1).2.2.2.2.2.2)), (0 : Int), min (g.2.2.2.1.getD g_1.1.toNat (0 : Int) - g.2.2.2.2.1.getD g_1.1.toNat (0 : Int)) (opAt x.1 g.2.2.2.2.2.2.1).2.2.2.2.2.2) ∧
 True) ∧
 ((True ∧
 True) ∧
 (True ∧
 True) ∧
 (True ∧
 True) ∧
 True ∧
 True ∧
 True ∧
 True ∧
 True ∧
 (True ∧
 True) ∧
 x.1 = x.1 ∧
 RR (↑x.1.length : Int) ∧
 RR g.2.2.2.2.2.2.1 ∧
 True) ∧
 ((g.1 = g.1 ∧
 True) ∧
 (g.2.1 = g.2.1 ∧
 True) ∧
 g.2.2.1 = g.2.2.1 ∧
 RR g.2.2.2.1 ∧
 RR (g.2.2.2.2.1.set g_1.1.toNat (g.2.2.2.2.1.getD g_1.1.toNat (0 : Int) + min (g.2.2.2.1.getD g_1.1.toNat (0 : Int) - g.2.2.2.2.1.getD g_1.1.toNat (0 : Int)) (opAt x.1 g.2.2.2.2.2.2.1).2.2.2.2.2.2)) ∧
 (RR (0 : Int) ∧
 RR (min (g.2.2.2.1.getD g_1.1.toNat (0 : Int) - g.2.2.2.2.1.getD g_1.1.toNat (0 : Int)) (opAt x.1 g.2.2.2.2.2.2.1).2.2.2.2.2.2) ∧
 True) ∧
 (Z64 = Z64 ∧
 True) ∧
 (True ∧
 (True ∧
 True) ∧
 True) ∧
 RR g.2.2.2.2.2.1 ∧
 True) ∧
 True) ∧
 (decide ((0 : Int) < g.2.2.2.1.getD g_1.1.toNat (0 : Int) - g.2.2.2.2.1.getD g_1.1.toNat (0 : Int)) = false →
 ((0 : Int) ≤ g_1.1 ∧
 g_1.1 < (↑g.2.2.2.2.1.length : Int)) ∧
 ((-9223372036854775808 : Int) ≤ g.2.2.2.2.1.getD g_1.1.toNat (0 : Int) + (0 : Int) ∧
 g.2.2.2.2.1.getD g_1.1.toNat (0 : Int) + (0 : Int) ≤ (9223372036854775807 : Int)) ∧
 ((0 : Int) ≤ g_1.1 ∧
 g_1.1 < (↑g.2.2.2.2.1.length : Int)) ∧
 (doV (g.1, g.2.1, g.2.2.1, g.2.2.2.1, g.2.2.2.2.1) (decide ((0 : Int) ≤ (opAt x.1 g.2.2.2.2.2.2.1).2.1) && decide ((opAt x.1 g.2.2.2.2.2.2.1).2.1 < (4 : Int)) && g.2.1.getD (opAt x.1 g.2.2.2.2.2.2.1).2.1.toNat false) g_1.1 ((opAt x.1 g.2.2.2.2.2.2.1).1, (opAt x.1 g.2.2.2.2.2.2.1).2.1, (opAt x.1 g.2.2.2.2.2.2.1).2.2.1, (opAt x.1 g.2.2.2.2.2.2.1).2.2.2.1, (opAt x.1 g.2.2.2.2.2.2.1).2.2.2.2.1, (opAt x.1 g.2.2.2.2.2.2.1).2.2.2.2.2.1, (opAt x.1 g.2.2.2.2.2.2.1).2.2.2.2.2.2) = ((g.1, g.2.1, g.2.2.1, g.2.2.2.1, g.2.2.2.2.1.set g_1.1.toNat (g.2.2.2.2.1.getD g_1.1.toNat (0 : Int) + (0 : Int))), (0 : Int), (0 : Int)) ∧
 True) ∧
 ((True ∧
 True) ∧
 (True ∧
 True) ∧
 (True ∧
 True) ∧
 True ∧
 True ∧
 True ∧
 True ∧
 True ∧
 (True ∧
 True) ∧
 x.1 = x.1 ∧
 RR (↑x.1.length : Int) ∧
 RR g.2.2.2.2.2.2.1 ∧
 True) ∧
 ((g.1 = g.1 ∧
 True) ∧
 (g.2.1 = g.2.1 ∧
 True) ∧
 g.2.2.1 = g.2.2.1 ∧
 RR g.2.2.2.1 ∧
 RR (g.2.2.2.2.1.set g_1.1.toNat (g.2.2.2.2.1.getD g_1.1.toNat (0 : Int) + (0 : Int))) ∧
 (RR (0 : Int) ∧
 RR (0 : Int) ∧
 True) ∧
 (Z64 = Z64 ∧
 True) ∧
 (True ∧
 (True ∧
 True) ∧
 True) ∧
 RR g.2.2.2.2.2.1 ∧
 True) ∧
 True))))))))))))))))) ∧
 ∀ (g_2 : List (List Int) × List Bool × List Int × List Int × List Int × (Int × Int) × Unit), doV (g.1, g.2.1, g.2.2.1, g.2.2.2.1, g.2.2.2.2.1) (decide ((0 : Int) ≤ (opAt x.1 g.2.2.2.2.2.2.1).2.1) && decide ((opAt x.1 g.2.2.2.2.2.2.1).2.1 < (4 : Int)) && g.2.1.getD (opAt x.1 g.2.2.2.2.2.2.1).2.1.toNat false) g_1.1 ((opAt x.1 g.2.2.2.2.2.2.1).1, (opAt x.1 g.2.2.2.2.2.2.1).2.1, (opAt x.1 g.2.2.2.2.2.2.1).2.2.1, (opAt x.1 g.2.2.2.2.2.2.1).2.2.2.1, (opAt x.1 g.2.2.2.2.2.2.1).2.2.2.2.1, (opAt x.1 g.2.2.2.2.2.2.1).2.2.2.2.2.1, (opAt x.1 g.2.2.2.2.2.2.1).2.2.2.2.2.2) = ((g_2.1, g_2.2.1, g_2.2.2.1, g_2.2.2.2.1, g_2.2.2.2.2.1), g_2.2.2.2.2.2.1) →
 (g_2.1.length = (4 : Nat) ∧
 ∀ (x : List Int), x ∈ g_2.1 →
 x.length = (16 : Nat) ∧
 ∀ (x_1 : Int), x_1 ∈ x →
 (-9223372036854775808 : Int) ≤ x_1 ∧
 x_1 ≤ (9223372036854775807 : Int)) ∧
 (g_2.2.1.length = (4 : Nat) ∧
 ∀ (x : Bool), x ∈ g_2.2.1 →
 True) ∧
 (g_2.2.2.1.length ≤ (9223372036854775807 : Nat) ∧
 ∀ (x : Int), x ∈ g_2.2.2.1 →
 (-9223372036854775808 : Int) ≤ x ∧
 x ≤ (9223372036854775807 : Int)) ∧
 (g_2.2.2.2.1.length ≤ (9223372036854775807 : Nat) ∧
 ∀ (x : Int), x ∈ g_2.2.2.2.1 →
 (-9223372036854775808 : Int) ≤ x ∧
 x ≤ (9223372036854775807 : Int)) ∧
 (g_2.2.2.2.2.1.length ≤ (9223372036854775807 : Nat) ∧
 ∀ (x : Int), x ∈ g_2.2.2.2.2.1 →
 (-9223372036854775808 : Int) ≤ x ∧
 x ≤ (9223372036854775807 : Int)) ∧
 (((-9223372036854775808 : Int) ≤ g_2.2.2.2.2.2.1.1 ∧
 g_2.2.2.2.2.2.1.1 ≤ (9223372036854775807 : Int)) ∧
 (-9223372036854775808 : Int) ≤ g_2.2.2.2.2.2.1.2 ∧
 g_2.2.2.2.2.2.1.2 ≤ (9223372036854775807 : Int)) ∧
 True →
 (g.2.2.2.2.2.1.length + ((((0 : Int), (0 : Int)) :: ([] : List (Int × Int))).set (0 : Nat) (g_2.2.2.2.2.2.1.1, g_2.2.2.2.2.2.1.2)).length ≤ (9223372036854775807 : Nat) ∧
 (g.2.2.2.2.2.1.length + ((((0 : Int), (0 : Int)) :: ([] : List (Int × Int))).set (0 : Nat) (g_2.2.2.2.2.2.1.1, g_2.2.2.2.2.2.1.2)).length + (g.2.2.2.2.2.1.length + ((((0 : Int), (0 : Int)) :: ([] : List (Int × Int))).set (0 : Nat) (g_2.2.2.2.2.2.1.1, g_2.2.2.2.2.2.1.2)).length) / (4 : Nat) + (192 : Nat)) * (16 : Nat) ≤ (281474976710656 : Nat)) ∧
 ((-9223372036854775808 : Int) ≤ g.2.2.2.2.2.2.1 + (1 : Int) ∧
 g.2.2.2.2.2.2.1 + (1 : Int) ≤ (9223372036854775807 : Int)) ∧
 (((0 : Int) ≤ g.2.2.2.2.2.2.1 + (1 : Int) ∧
 g.2.2.2.2.2.2.1 + (1 : Int) ≤ (↑x.1.length : Int) ∧
 frun (List.take (g.2.2.2.2.2.2.1 + (1 : Int)).toNat x.1) = ((g_2.1, g_2.2.1, g_2.2.2.1, g_2.2.2.2.1, g_2.2.2.2.2.1), g.2.2.2.2.2.1 ++ (((0 : Int), (0 : Int)) :: ([] : List (Int × Int))).set (0 : Nat) (g_2.2.2.2.2.2.1.1, g_2.2.2.2.2.2.1.2))) ∧
 ((↑x.1.length : Int) - (g.2.2.2.2.2.2.1 + (1 : Int))).toNat < ((↑x.1.length : Int) - g.2.2.2.2.2.2.1).toNat) ∧
 ((True ∧
 True) ∧
 (True ∧
 True) ∧
 (True ∧
 True) ∧
 True ∧
 True ∧
 True ∧
 True ∧
 True ∧
 x.1 = x.1 ∧
 RR (↑x.1.length : Int) ∧
 g.2.2.2.2.2.2.1 + (1 : Int) = g.2.2.2.2.2.2.1 + (1 : Int) ∧
 True) ∧
 ((g_2.1 = g_2.1 ∧
 True) ∧
 (g_2.2.1 = g_2.2.1 ∧
 True) ∧
 RR g_2.2.2.1 ∧
 RR g_2.2.2.2.1 ∧
 RR g_2.2.2.2.2.1 ∧
 g.2.2.2.2.2.1 ++ (((0 : Int), (0 : Int)) :: ([] : List (Int × Int))).set (0 : Nat) (g_2.2.2.2.2.2.1.1, g_2.2.2.2.2.2.1.2) = g.2.2.2.2.2.1 ++ (((0 : Int), (0 : Int)) :: ([] : List (Int × Int))).set (0 : Nat) (g_2.2.2.2.2.2.1.1, g_2.2.2.2.2.2.1.2) ∧
 (Z64 = Z64 ∧
 True) ∧
 (True ∧
 (True ∧
 True) ∧
 True) ∧
 True) ∧
 True) ∧
 (decide (g.2.2.2.2.2.2.1 < (↑x.1.length : Int)) = false →
 ((((0 : Int) ≤ (0 : Int) ∧
 (0 : Int) ≤ (4 : Int) ∧
 upto Z64 (holdV g.1 g.2.2.1) (0 : Int) (0 : Int)) ∧
 True) ∧
 ((True ∧
 True) ∧
 (True ∧
 True) ∧
 True ∧
 True ∧
 (True ∧
 True) ∧
 RR (0 : Int) ∧
 True) ∧
 ((Z64 = Z64 ∧
 True) ∧
 (Z64 = Z64 ∧
 True) ∧
 (g.1 = g.1 ∧
 True) ∧
 g.2.2.1 = g.2.2.1 ∧
 RR g.2.2.2.2.2.1 ∧
 True) ∧
 True) ∧
 ∀ (g_1 : List (List Int) × Int × Unit), (0 : Int) ≤ g_1.2.1 ∧
 g_1.2.1 ≤ (4 : Int) ∧
 upto g_1.1 (holdV g.1 g.2.2.1) g_1.2.1 (0 : Int) →
 (g_1.1.length = (4 : Nat) ∧
 ∀ (x : List Int), x ∈ g_1.1 →
 x.length = (16 : Nat) ∧
 ∀ (x_1 : Int), x_1 ∈ x →
 (-9223372036854775808 : Int) ≤ x_1 ∧
 x_1 ≤ (9223372036854775807 : Int)) ∧
 ((-9223372036854775808 : Int) ≤ g_1.2.1 ∧
 g_1.2.1 ≤ (9223372036854775807 : Int)) ∧
 True →
 (decide (g_1.2.1 < (4 : Int)) = true →
 ((0 : Int) ≤ g_1.2.1 ∧
 g_1.2.1 < (↑(4 : Nat) : Int)) ∧
 ((((0 : Int) ≤ (0 : Int) ∧
 (0 : Int) ≤ (16 : Int) ∧
 upto g_1.1 (holdV g.1 g.2.2.1) g_1.2.1 (0 : Int)) ∧
 True) ∧
 ((True ∧
 True) ∧
 (True ∧
 True) ∧
 True ∧
 True ∧
 (True ∧
 True) ∧
 g_1.2.1 = g_1.2.1 ∧
 g_1.2.1 = g_1.2.1 ∧
 (RR (g.1.getD g_1.2.1.toNat Z16) ∧
 True) ∧
 RR (0 : Int) ∧
 True) ∧
 ((g_1.1 = g_1.1 ∧
 True) ∧
 (Z64 = Z64 ∧
 True) ∧
 (g.1 = g.1 ∧
 True) ∧
 g.2.2.1 = g.2.2.1 ∧
 RR g.2.2.2.2.2.1 ∧
 True) ∧
 True) ∧
 ∀ (g_2 : List (List Int) × Int × Unit), (0 : Int) ≤ g_2.2.1 ∧
 g_2.2.1 ≤ (16 : Int) ∧
 upto g_2.1 (holdV g.1 g.2.2.1) g_1.2.1 g_2.2.1 →
 (g_2.1.length = (4 : Nat) ∧
 ∀ (x : List Int), x ∈ g_2.1 →
 x.length = (16 : Nat) ∧
 ∀ (x_1 : Int), x_1 ∈ x →
 (-9223372036854775808 : Int) ≤ x_1 ∧
 x_1 ≤ (9223372036854775807 : Int)) ∧
 ((-9223372036854775808 : Int) ≤ g_2.2.1 ∧
 g_2.2.1 ≤ (9223372036854775807 : Int)) ∧
 True →
 (decide (g_2.2.1 < (16 : Int)) = true →
 ((0 : Int) ≤ g_2.2.1 ∧
 g_2.2.1 < (↑(16 : Nat) : Int)) ∧
 ((0 : Int) ≤ g_1.2.1 ∧
 g_1.2.1 < (↑(4 : Nat) : Int)) ∧
 ((0 : Int) ≤ g_2.2.1 ∧
 g_2.2.1 < (↑(16 : Nat) : Int)) ∧
 (decide ((0 : Int) < (g.1.getD g_1.2.1.toNat Z16).getD g_2.2.1.toNat (0 : Int)) = true →
 ((-9223372036854775808 : Int) ≤ (g.1.getD g_1.2.1.toNat Z16).getD g_2.2.1.toNat (0 : Int) - (1 : Int) ∧
 (g.1.getD g_1.2.1.toNat Z16).getD g_2.2.1.toNat (0 : Int) - (1 : Int) ≤ (9223372036854775807 : Int)) ∧
 ((0 : Int) ≤ (g.1.getD g_1.2.1.toNat Z16).getD g_2.2.1.toNat (0 : Int) - (1 : Int) ∧
 (g.1.getD g_1.2.1.toNat Z16).getD g_2.2.1.toNat (0 : Int) - (1 : Int) < (↑g.2.2.1.length : Int)) ∧
 ((0 : Int) ≤ g_1.2.1 ∧
 g_1.2.1 < (↑(4 : Nat) : Int)) ∧
 ((0 : Int) ≤ g_2.2.1 ∧
 g_2.2.1 < (↑(16 : Nat) : Int)) ∧
 ((-9223372036854775808 : Int) ≤ g_2.2.1 + (1 : Int) ∧
 g_2.2.1 + (1 : Int) ≤ (9223372036854775807 : Int)) ∧
 (((0 : Int) ≤ g_2.2.1 + (1 : Int) ∧
 g_2.2.1 + (1 : Int) ≤ (16 : Int) ∧
 upto ((g_2.1.set g_1.2.1.toNat ((g_2.1.getD g_1.2.1.toNat Z16).set g_2.2.1.toNat (-1 : Int))).set g_1.2.1.toNat (((g_2.1.set g_1.2.1.toNat ((g_2.1.getD g_1.2.1.toNat Z16).set g_2.2.1.toNat (-1 : Int))).getD g_1.2.1.toNat Z16).set g_2.2.1.toNat (max (g.2.2.1.getD ((g.1.getD g_1.2.1.toNat Z16).getD g_2.2.1.toNat (0 : Int) - (1 : Int)).toNat (0 : Int)) (0 : Int)))) (holdV g.1 g.2.2.1) g_1.2.1 (g_2.2.1 + (1 : Int))) ∧
 ((16 : Int) - (g_2.2.1 + (1 : Int))).toNat < ((16 : Int) - g_2.2.1).toNat) ∧
 ((True ∧
 True) ∧
 (True ∧
 True) ∧
 True ∧
 True ∧
 (True ∧
 True) ∧
 g_1.2.1 = g_1.2.1 ∧
 g_1.2.1 = g_1.2.1 ∧
 (RR (g.1.getD g_1.2.1.toNat Z16) ∧
 True) ∧
 g_2.2.1 + (1 : Int) = g_2.2.1 + (1 : Int) ∧
 True) ∧
 (((g_2.1.set g_1.2.1.toNat ((g_2.1.getD g_1.2.1.toNat Z16).set g_2.2.1.toNat (-1 : Int))).set g_1.2.1.toNat (((g_2.1.set g_1.2.1.toNat ((g_2.1.getD g_1.2.1.toNat Z16).set g_2.2.1.toNat (-1 : Int))).getD g_1.2.1.toNat Z16).set g_2.2.1.toNat (max (g.2.2.1.getD ((g.1.getD g_1.2.1.toNat Z16).getD g_2.2.1.toNat (0 : Int) - (1 : Int)).toNat (0 : Int)) (0 : Int))) = (g_2.1.set g_1.2.1.toNat ((g_2.1.getD g_1.2.1.toNat Z16).set g_2.2.1.toNat (-1 : Int))).set g_1.2.1.toNat (((g_2.1.set g_1.2.1.toNat ((g_2.1.getD g_1.2.1.toNat Z16).set g_2.2.1.toNat (-1 : Int))).getD g_1.2.1.toNat Z16).set g_2.2.1.toNat (max (g.2.2.1.getD ((g.1.getD g_1.2.1.toNat Z16).getD g_2.2.1.toNat (0 : Int) - (1 : Int)).toNat (0 : Int)) (0 : Int))) ∧
 True) ∧
 (Z64 = Z64 ∧
 True) ∧
 (g.1 = g.1 ∧
 True) ∧
 g.2.2.1 = g.2.2.1 ∧
 RR g.2.2.2.2.2.1 ∧
 True) ∧
 True) ∧
 (decide ((0 : Int) < (g.1.getD g_1.2.1.toNat Z16).getD g_2.2.1.toNat (0 : Int)) = false →
 ((-9223372036854775808 : Int) ≤ g_2.2.1 + (1 : Int) ∧
 g_2.2.1 + (1 : Int) ≤ (9223372036854775807 : Int)) ∧
 (((0 : Int) ≤ g_2.2.1 + (1 : Int) ∧
 g_2.2.1 + (1 : Int) ≤ (16 : Int) ∧
 upto (g_2.1.set g_1.2.1.toNat ((g_2.1.getD g_1.2.1.toNat Z16).set g_2.2.1.toNat (-1 : Int))) (holdV g.1 g.2.2.1) g_1.2.1 (g_2.2.1 + (1 : Int))) ∧
 ((16 : Int) - (g_2.2.1 + (1 : Int))).toNat < ((16 : Int) - g_2.2.1).toNat) ∧
 ((True ∧
 True) ∧
 (True ∧
 True) ∧
 True ∧
 True ∧
 (True ∧
 True) ∧
 g_1.2.1 = g_1.2.1 ∧
 g_1.2.1 = g_1.2.1 ∧
 (RR (g.1.getD g_1.2.1.toNat Z16) ∧
 True) ∧
 g_2.2.1 + (1 : Int) = g_2.2.1 + (1 : Int) ∧
 True) ∧
 ((RR (g_2.1.set g_1.2.1.toNat ((g_2.1.getD g_1.2.1.toNat Z16).set g_2.2.1.toNat (-1 : Int))) ∧
 True) ∧
 (Z64 = Z64 ∧
 True) ∧
 (g.1 = g.1 ∧
 True) ∧
 g.2.2.1 = g.2.2.1 ∧
 RR g.2.2.2.2.2.1 ∧
 True) ∧
 True)) ∧
 (decide (g_2.2.1 < (16 : Int)) = false →
 ((-9223372036854775808 : Int) ≤ g_1.2.1 + (1 : Int) ∧
 g_1.2.1 + (1 : Int) ≤ (9223372036854775807 : Int)) ∧
 (((0 : Int) ≤ g_1.2.1 + (1 : Int) ∧
 g_1.2.1 + (1 : Int) ≤ (4 : Int) ∧
 upto g_2.1 (holdV g.1 g.2.2.1) (g_1.2.1 + (1 : Int)) (0 : Int)) ∧
 ((4 : Int) - (g_1.2.1 + (1 : Int))).toNat < ((4 : Int) - g_1.2.1).toNat) ∧
 ((True ∧
 True) ∧
 (True ∧
 True) ∧
 True ∧
 True ∧
 (True ∧
 True) ∧
 g_1.2.1 + (1 : Int) = g_1.2.1 + (1 : Int) ∧
 True) ∧
 ((g_2.1 = g_2.1 ∧
 True) ∧
 (Z64 = Z64 ∧
 True) ∧
 (g.1 = g.1 ∧
 True) ∧
 g.2.2.1 = g.2.2.1 ∧
 RR g.2.2.2.2.2.1 ∧
 True) ∧
 True)) ∧
 (decide (g_1.2.1 < (4 : Int)) = false →
 g.2.2.2.2.2.1 = (fplay x.1).1 ∧
 g_1.1 = (fplay x.1).2.1))

theorem E_vplay_eq (x : HL (cPlay : Ctr).as) : vc (fx_vplay x) 3 13 Try.f13 (cPlay) x = E_vplay x := by kernel_rfl

def E_law (x : List (Int × Int × Int × Int × Int × Int × Int) × Unit) : Prop :=
 Holds (x.1.length * (56 : Nat) ≤ (140737488355328 : Nat)) ∧
 Holds (x.1.length * (56 : Nat) ≤ (140737488355328 : Nat)) ∧
 Holds True ∧
 (decide ((fplay x.1).1 = (fplay x.1).1) = true →
 deq (Ty.arr (4 : Nat) (Ty.arr (16 : Nat) (Ty.int IntKind.i64))) (fplay x.1).2.1 (fplay x.1).2.1 = true) ∧
 (decide ((fplay x.1).1 = (fplay x.1).1) = !true → false = true)

theorem E_law_eq (x : HL (cLaw : Ctr).as) : vc (fx_law x) 1 4 Try.f4 (cLaw) x = E_law x := by kernel_rfl

end Go.Proofs.Ytpmfgdedkmddlaa.Filesp
