/-
  The conditions that the executor comes to, written out (by a tool of ours), and that they are the conditions (by the kernel).
-/
import Derived.Test.YtpnmfoojmodnlaaCoresE0
namespace Go.Proofs.Ytpnmfoojmodnlaa.Cores
open Go.Sx
set_option maxRecDepth 100000

def E_run (x : Int × Int × List (Int × Int × Int) × Int × Unit) : Prop :=
 Holds True ∧
 ((wr x.1 x.2.1 x.2.2.1 != (0 : Int)) = true →
 ([] : List (List Int)) = (crun x.1 x.2.1 x.2.2.1 x.2.2.2.1).1 ∧
 wr x.1 x.2.1 x.2.2.1 = (crun x.1 x.2.1 x.2.2.1 x.2.2.2.1).2) ∧
 ((wr x.1 x.2.1 x.2.2.1 != (0 : Int)) = false →
 ((!decide (x.2.2.2.1 < (0 : Int))) = true → (!decide (x.2.2.2.1 < (0 : Int))) = true) ∧
 (decide (x.2.2.2.1 < (0 : Int)) = false → (!decide (x.2.2.2.1 < (0 : Int))) = true) ∧
 ((decide (x.2.2.2.1 < (0 : Int)) || decide ((2000 : Int) < x.2.2.2.1)) = true →
 ([] : List (List Int)) = (crun x.1 x.2.1 x.2.2.1 x.2.2.2.1).1 ∧
 (2 : Int) = (crun x.1 x.2.1 x.2.2.1 x.2.2.2.1).2) ∧
 ((decide (x.2.2.2.1 < (0 : Int)) || decide ((2000 : Int) < x.2.2.2.1)) = false →
 (((0 : Int) ≤ (↑x.2.2.1.length : Int) ∧ (↑x.2.2.1.length : Int) ≤ (↑x.2.2.1.length : Int)) ∧
 (↑x.2.2.1.length : Int) * (↑(8 : Nat) : Int) ≤ (140737488355328 : Int) ∧
 (↑x.2.2.1.length : Int) ≤ (9223372036854775807 : Int)) ∧
 ((((0 : Int) ≤ (0 : Int) ∧
 (0 : Int) ≤ (↑x.2.2.1.length : Int) ∧
 (List.replicate (↑x.2.2.1.length : Int).toNat (-1 : Int)).length = x.2.2.1.length ∧
 keys ([] : List (Int × (Int × Int × Int) × Int × Int × Int)) =
 List.take (Int.toNat (0 : Int)) (List.replicate (↑x.2.2.1.length : Int).toNat (-1 : Int)) ∧
 ∀ (i : Nat),
 (↑i : Int) < (0 : Int) →
 rec ([] : List (Int × (Int × Int × Int) × Int × Int × Int)) (↑i : Int) =
 (th x.2.2.1 (↑i : Int), (↑i : Int), (0 : Int), (0 : Int))) ∧
 True) ∧
 (x.1 = x.1 ∧
 x.2.1 = x.2.1 ∧
 x.2.2.2.1 = x.2.2.2.1 ∧
 True ∧
 x.2.2.1 = x.2.2.1 ∧
 (↑x.2.2.1.length : Int) = (↑x.2.2.1.length : Int) ∧ (0 : Int) = (0 : Int) ∧ True) ∧
 (List.replicate (↑x.2.2.1.length : Int).toNat (-1 : Int) = List.replicate (↑x.2.2.1.length : Int).toNat (-1 : Int) ∧
 ([] : List (Int × (Int × Int × Int) × Int × Int × Int)) = ([] : List (Int × (Int × Int × Int) × Int × Int × Int)) ∧ True) ∧
 True) ∧
 ∀ (g : List Int × Int × List (Int × (Int × Int × Int) × Int × Int × Int) × Unit),
 ((0 : Int) ≤ g.2.1 ∧
 g.2.1 ≤ (↑x.2.2.1.length : Int) ∧
 g.1.length = x.2.2.1.length ∧
 keys g.2.2.1 = List.take g.2.1.toNat g.1 ∧
 ∀ (i : Nat),
 (↑i : Int) < g.2.1 →
 rec g.2.2.1 (↑i : Int) = (th x.2.2.1 (↑i : Int), (↑i : Int), (0 : Int), (0 : Int))) →
 (g.1.length ≤ (9223372036854775807 : Nat) ∧ ∀ (x : Int), x ∈ g.1 → (0 : Int) ≤ x + (1 : Int) ∧ True) ∧
 ((-9223372036854775808 : Int) ≤ g.2.1 ∧ g.2.1 ≤ (9223372036854775807 : Int)) ∧
 ((List.map (fun x ↦ x.1) g.2.2.1).Nodup ∧
 ∀ (e : Int × (Int × Int × Int) × Int × Int × Int),
 e ∈ g.2.2.1 →
 (0 : Int) ≤ e.1 ∧
 (((-9223372036854775808 : Int) ≤ e.2.1.1 ∧ e.2.1.1 ≤ (9223372036854775807 : Int)) ∧
 ((-9223372036854775808 : Int) ≤ e.2.1.2.1 ∧ e.2.1.2.1 ≤ (9223372036854775807 : Int)) ∧
 (-9223372036854775808 : Int) ≤ e.2.1.2.2 ∧ e.2.1.2.2 ≤ (9223372036854775807 : Int)) ∧
 ((-9223372036854775808 : Int) ≤ e.2.2.1 ∧ e.2.2.1 ≤ (9223372036854775807 : Int)) ∧
 ((-9223372036854775808 : Int) ≤ e.2.2.2.1 ∧ e.2.2.2.1 ≤ (9223372036854775807 : Int)) ∧
 (-9223372036854775808 : Int) ≤ e.2.2.2.2 ∧ e.2.2.2.2 ≤ (9223372036854775807 : Int)) ∧
 True →
 (decide (g.2.1 < (↑x.2.2.1.length : Int)) = true →
 ((0 : Int) ≤ g.2.1 ∧ g.2.1 < (↑x.2.2.1.length : Int)) ∧
 ∀ (g_1 : Int),
 (0 : Int) ≤ g_1 →
 mhas
 (((Ty.int IntKind.i64).pair ((Ty.int IntKind.i64).pair (Ty.int IntKind.i64))).pair
 ((Ty.int IntKind.i64).pair ((Ty.int IntKind.i64).pair (Ty.int IntKind.i64))))
 g.2.2.1 g_1 =
 false →
 ((0 : Int) ≤ g.2.1 ∧ g.2.1 < (↑g.1.length : Int)) ∧
 ((-9223372036854775808 : Int) ≤ g.2.1 + (1 : Int) ∧ g.2.1 + (1 : Int) ≤ (9223372036854775807 : Int)) ∧
 (((0 : Int) ≤ g.2.1 + (1 : Int) ∧
 g.2.1 + (1 : Int) ≤ (↑x.2.2.1.length : Int) ∧
 (g.1.set g.2.1.toNat g_1).length = x.2.2.1.length ∧
 keys
 (mput
 (((Ty.int IntKind.i64).pair ((Ty.int IntKind.i64).pair (Ty.int IntKind.i64))).pair
 ((Ty.int IntKind.i64).pair ((Ty.int IntKind.i64).pair (Ty.int IntKind.i64))))
 g.2.2.1 g_1
 (((x.2.2.1.getD g.2.1.toNat ((0 : Int), (0 : Int), (0 : Int))).1,
 (x.2.2.1.getD g.2.1.toNat ((0 : Int), (0 : Int), (0 : Int))).2.1,
 (x.2.2.1.getD g.2.1.toNat ((0 : Int), (0 : Int), (0 : Int))).2.2),
 g.2.1, (0 : Int), (0 : Int))) =
 List.take (g.2.1 + (1 : Int)).toNat (g.1.set g.2.1.toNat g_1) ∧
 ∀ (i : Nat),
 (↑i : Int) < g.2.1 + (1 : Int) →
 rec
 (mput
 (((Ty.int IntKind.i64).pair ((Ty.int IntKind.i64).pair (Ty.int IntKind.i64))).pair
 ((Ty.int IntKind.i64).pair ((Ty.int IntKind.i64).pair (Ty.int IntKind.i64))))
 g.2.2.1 g_1
 (((x.2.2.1.getD g.2.1.toNat ((0 : Int), (0 : Int), (0 : Int))).1,
 (x.2.2.1.getD g.2.1.toNat ((0 : Int), (0 : Int), (0 : Int))).2.1,
 (x.2.2.1.getD g.2.1.toNat ((0 : Int), (0 : Int), (0 : Int))).2.2),
 g.2.1, (0 : Int), (0 : Int)))
 (↑i : Int) =
 (th x.2.2.1 (↑i : Int), (↑i : Int), (0 : Int), (0 : Int))) ∧
 ((↑x.2.2.1.length : Int) - (g.2.1 + (1 : Int))).toNat <
 ((↑x.2.2.1.length : Int) - g.2.1).toNat) ∧
 (x.1 = x.1 ∧
 x.2.1 = x.2.1 ∧
 x.2.2.2.1 = x.2.2.2.1 ∧
 True ∧
 x.2.2.1 = x.2.2.1 ∧
 (↑x.2.2.1.length : Int) = (↑x.2.2.1.length : Int) ∧
 g.2.1 + (1 : Int) = g.2.1 + (1 : Int) ∧ True) ∧
 (g.1.set g.2.1.toNat g_1 = g.1.set g.2.1.toNat g_1 ∧
 mput
 (((Ty.int IntKind.i64).pair ((Ty.int IntKind.i64).pair (Ty.int IntKind.i64))).pair
 ((Ty.int IntKind.i64).pair ((Ty.int IntKind.i64).pair (Ty.int IntKind.i64))))
 g.2.2.1 g_1
 (((x.2.2.1.getD g.2.1.toNat ((0 : Int), (0 : Int), (0 : Int))).1,
 (x.2.2.1.getD g.2.1.toNat ((0 : Int), (0 : Int), (0 : Int))).2.1,
 (x.2.2.1.getD g.2.1.toNat ((0 : Int), (0 : Int), (0 : Int))).2.2),
 g.2.1, (0 : Int), (0 : Int)) =
 mput
 (((Ty.int IntKind.i64).pair ((Ty.int IntKind.i64).pair (Ty.int IntKind.i64))).pair
 ((Ty.int IntKind.i64).pair ((Ty.int IntKind.i64).pair (Ty.int IntKind.i64))))
 g.2.2.1 g_1
 (((x.2.2.1.getD g.2.1.toNat ((0 : Int), (0 : Int), (0 : Int))).1,
 (x.2.2.1.getD g.2.1.toNat ((0 : Int), (0 : Int), (0 : Int))).2.1,
 (x.2.2.1.getD g.2.1.toNat ((0 : Int), (0 : Int), (0 : Int))).2.2),
 g.2.1, (0 : Int), (0 : Int)) ∧
 True) ∧
 True) ∧
 (decide (g.2.1 < (↑x.2.2.1.length : Int)) = false →
 ((((0 : Int) ≤ (0 : Int) ∧
 (0 : Int) ≤ x.2.2.2.1 ∧
 ((0 : Int) ≤ (0 : Int) ∧ (0 : Int) ≤ (100 : Int) * (0 : Int)) ∧
 (nst x.1 x.2.1 x.2.2.1 (Int.toNat (0 : Int))).2 = ([] : List (List Int)) ∧
 IN x.2.2.1 (0 : Int) (0 : Nat) (nst x.1 x.2.1 x.2.2.1 (Int.toNat (0 : Int))).1.1 ∧
 RT x.2.2.1 x.2.1 (0 : Int) g.1 g.2.2.1
 (nst x.1 x.2.1 x.2.2.1 (Int.toNat (0 : Int))).1) ∧
 True) ∧
 (x.1 = x.1 ∧
 x.2.1 = x.2.1 ∧
 True ∧ (0 : Int) = (0 : Int) ∧ True ∧ x.2.2.2.1 = x.2.2.2.1 ∧ (0 : Int) = (0 : Int) ∧ True) ∧
 (([] : List (List Int)) = ([] : List (List Int)) ∧ g.2.2.1 = g.2.2.1 ∧ g.1 = g.1 ∧ True) ∧ True) ∧
 ∀ (g_1 : Int × List (List Int) × Int × List (Int × (Int × Int × Int) × Int × Int × Int) × Unit),
 (0 : Int) ≤ g_1.2.2.1 ∧
 g_1.2.2.1 ≤ x.2.2.2.1 ∧
 ((0 : Int) ≤ g_1.1 ∧ g_1.1 ≤ (100 : Int) * g_1.2.2.1) ∧
 (nst x.1 x.2.1 x.2.2.1 g_1.2.2.1.toNat).2 = g_1.2.1 ∧
 IN x.2.2.1 g_1.2.2.1 (0 : Nat)
 (nst x.1 x.2.1 x.2.2.1 g_1.2.2.1.toNat).1.1 ∧
 RT x.2.2.1 x.2.1 g_1.1 g.1 g_1.2.2.2.1
 (nst x.1 x.2.1 x.2.2.1 g_1.2.2.1.toNat).1 →
 ((-9223372036854775808 : Int) ≤ g_1.1 ∧ g_1.1 ≤ (9223372036854775807 : Int)) ∧
 (g_1.2.1.length ≤ (9223372036854775807 : Nat) ∧
 ∀ (x : List Int),
 x ∈ g_1.2.1 →
 x.length ≤ (9223372036854775807 : Nat) ∧
 ∀ (x_1 : Int), x_1 ∈ x → (-9223372036854775808 : Int) ≤ x_1 ∧ x_1 ≤ (9223372036854775807 : Int)) ∧
 ((-9223372036854775808 : Int) ≤ g_1.2.2.1 ∧ g_1.2.2.1 ≤ (9223372036854775807 : Int)) ∧
 ((List.map (fun x ↦ x.1) g_1.2.2.2.1).Nodup ∧
 ∀ (e : Int × (Int × Int × Int) × Int × Int × Int),
 e ∈ g_1.2.2.2.1 →
 (0 : Int) ≤ e.1 ∧
 (((-9223372036854775808 : Int) ≤ e.2.1.1 ∧ e.2.1.1 ≤ (9223372036854775807 : Int)) ∧
 ((-9223372036854775808 : Int) ≤ e.2.1.2.1 ∧
 e.2.1.2.1 ≤ (9223372036854775807 : Int)) ∧
 (-9223372036854775808 : Int) ≤ e.2.1.2.2 ∧
 e.2.1.2.2 ≤ (9223372036854775807 : Int)) ∧
 ((-9223372036854775808 : Int) ≤ e.2.2.1 ∧ e.2.2.1 ≤ (9223372036854775807 : Int)) ∧
 ((-9223372036854775808 : Int) ≤ e.2.2.2.1 ∧
 e.2.2.2.1 ≤ (9223372036854775807 : Int)) ∧
 (-9223372036854775808 : Int) ≤ e.2.2.2.2 ∧
 e.2.2.2.2 ≤ (9223372036854775807 : Int)) ∧
 True →
 (decide (g_1.2.2.1 < x.2.2.2.1) = true →
 ((((0 : Int) ≤ (0 : Int) ∧
 (0 : Int) ≤ (↑x.2.2.1.length : Int) ∧
 ((0 : Int) ≤ g_1.1 ∧ g_1.1 ≤ (100 : Int) * g_1.2.2.1 + (0 : Int)) ∧
 ([] : List Int) = rdy x.2.2.1 g_1.2.2.1 g_1.2.2.2.1 (Int.toNat (0 : Int)) ∧
 ∃ q,
 q = (nst x.1 x.2.1 x.2.2.1 g_1.2.2.1.toNat).1 ∧
 RT x.2.2.1 x.2.1 g_1.1 g.1 g_1.2.2.2.1
 ((comes x.2.2.1 g_1.2.2.1 (Int.toNat (0 : Int)) (q.1, q.2.1)).1,
 (comes x.2.2.1 g_1.2.2.1 (Int.toNat (0 : Int)) (q.1, q.2.1)).2,
 q.2.2)) ∧
 True) ∧
 (x.1 = x.1 ∧
 x.2.1 = x.2.1 ∧
 True ∧
 g_1.1 = g_1.1 ∧
 True ∧
 g_1.2.2.1 = g_1.2.2.1 ∧
 True ∧
 x.2.2.2.1 = x.2.2.2.1 ∧
 g_1.2.2.1 = g_1.2.2.1 ∧
 True ∧ (↑g.1.length : Int) = (↑g.1.length : Int) ∧ (0 : Int) = (0 : Int) ∧ True) ∧
 (([] : List Int) = ([] : List Int) ∧
 g_1.2.2.2.1 = g_1.2.2.2.1 ∧ g.1 = g.1 ∧ g_1.2.1 = g_1.2.1 ∧ True) ∧
 True) ∧
 ∀ (g_2 : Int × List Int × Int × List (Int × (Int × Int × Int) × Int × Int × Int) × Unit),
 ((0 : Int) ≤ g_2.2.2.1 ∧
 g_2.2.2.1 ≤ (↑x.2.2.1.length : Int) ∧
 ((0 : Int) ≤ g_2.1 ∧ g_2.1 ≤ (100 : Int) * g_1.2.2.1 + g_2.2.2.1) ∧
 g_2.2.1 = rdy x.2.2.1 g_1.2.2.1 g_2.2.2.2.1 g_2.2.2.1.toNat ∧
 ∃ q,
 q = (nst x.1 x.2.1 x.2.2.1 g_1.2.2.1.toNat).1 ∧
 RT x.2.2.1 x.2.1 g_2.1 g.1 g_2.2.2.2.1
 ((comes x.2.2.1 g_1.2.2.1 g_2.2.2.1.toNat (q.1, q.2.1)).1,
 (comes x.2.2.1 g_1.2.2.1 g_2.2.2.1.toNat (q.1, q.2.1)).2,
 q.2.2)) →
 ((-9223372036854775808 : Int) ≤ g_2.1 ∧ g_2.1 ≤ (9223372036854775807 : Int)) ∧
 (g_2.2.1.length ≤ (9223372036854775807 : Nat) ∧
 ∀ (x : Int), x ∈ g_2.2.1 → (0 : Int) ≤ x + (1 : Int) ∧ True) ∧
 ((-9223372036854775808 : Int) ≤ g_2.2.2.1 ∧ g_2.2.2.1 ≤ (9223372036854775807 : Int)) ∧
 ((List.map (fun x ↦ x.1) g_2.2.2.2.1).Nodup ∧
 ∀ (e : Int × (Int × Int × Int) × Int × Int × Int),
 e ∈ g_2.2.2.2.1 →
 (0 : Int) ≤ e.1 ∧
 (((-9223372036854775808 : Int) ≤ e.2.1.1 ∧
 e.2.1.1 ≤ (9223372036854775807 : Int)) ∧
 ((-9223372036854775808 : Int) ≤ e.2.1.2.1 ∧
 e.2.1.2.1 ≤ (9223372036854775807 : Int)) ∧
 (-9223372036854775808 : Int) ≤ e.2.1.2.2 ∧
 e.2.1.2.2 ≤ (9223372036854775807 : Int)) ∧
 ((-9223372036854775808 : Int) ≤ e.2.2.1 ∧
 e.2.2.1 ≤ (9223372036854775807 : Int)) ∧
 ((-9223372036854775808 : Int) ≤ e.2.2.2.1 ∧
 e.2.2.2.1 ≤ (9223372036854775807 : Int)) ∧
 (-9223372036854775808 : Int) ≤ e.2.2.2.2 ∧
 e.2.2.2.2 ≤ (9223372036854775807 : Int)) ∧
 True →
 (decide (g_2.2.2.1 < (↑g.1.length : Int)) = true →
 ((0 : Int) ≤ g_2.2.2.1 ∧ g_2.2.2.1 < (↑g.1.length : Int)) ∧
 ((0 : Int) ≤ g.1.getD g_2.2.2.1.toNat (-1 : Int) ∧
 mhas tythread g_2.2.2.2.1 (g.1.getD g_2.2.2.1.toNat (-1 : Int)) = true ∧
 (((mval tythread g_2.2.2.2.1
 (g.1.getD g_2.2.2.1.toNat (-1 : Int))).1.1 ==
 g_1.2.2.1) =
 true →
 ((-9223372036854775808 : Int) ≤ g_2.1 + (1 : Int) ∧
 g_2.1 + (1 : Int) ≤ (9223372036854775807 : Int)) ∧
 (0 : Int) ≤ g.1.getD g_2.2.2.1.toNat (-1 : Int) ∧
 mhas tythread g_2.2.2.2.1 (g.1.getD g_2.2.2.1.toNat (-1 : Int)) =
 true ∧
 ((g_2.1 + (1 : Int),
 mput tythread g_2.2.2.2.1
 (g.1.getD g_2.2.2.1.toNat (-1 : Int))
 (((mval tythread g_2.2.2.2.1
 (g.1.getD g_2.2.2.1.toNat (-1 : Int))).1.1,
 (mval tythread g_2.2.2.2.1
 (g.1.getD g_2.2.2.1.toNat
 (-1 : Int))).1.2.1,
 (mval tythread g_2.2.2.2.1
 (g.1.getD g_2.2.2.1.toNat
 (-1 : Int))).1.2.2),
 (mval tythread g_2.2.2.2.1
 (g.1.getD g_2.2.2.1.toNat (-1 : Int))).2.1,
 g_2.1 + (1 : Int),
 (mval tythread g_2.2.2.2.1
 (g.1.getD g_2.2.2.1.toNat
 (-1 : Int))).2.2.2)) =
 comeM g_1.2.2.1 g_2.1 g_2.2.2.2.1
 (g.1.getD g_2.2.2.1.toNat (-1 : Int)) ∧
 True) ∧
 (x.1 = x.1 ∧
 x.2.1 = x.2.1 ∧
 True ∧
 g_2.1 + (1 : Int) = g_2.1 + (1 : Int) ∧
 True ∧
 g_1.2.2.1 = g_1.2.2.1 ∧
 True ∧
 g.1.getD g_2.2.2.1.toNat (-1 : Int) =
 g.1.getD g_2.2.2.1.toNat (-1 : Int) ∧
 x.2.2.2.1 = x.2.2.2.1 ∧
 g_1.2.2.1 = g_1.2.2.1 ∧
 True ∧
 (↑g.1.length : Int) = (↑g.1.length : Int) ∧
 g_2.2.2.1 = g_2.2.2.1 ∧ True) ∧
 (mput tythread g_2.2.2.2.1
 (g.1.getD g_2.2.2.1.toNat (-1 : Int))
 (((mval tythread g_2.2.2.2.1
 (g.1.getD g_2.2.2.1.toNat (-1 : Int))).1.1,
 (mval tythread g_2.2.2.2.1
 (g.1.getD g_2.2.2.1.toNat
 (-1 : Int))).1.2.1,
 (mval tythread g_2.2.2.2.1
 (g.1.getD g_2.2.2.1.toNat
 (-1 : Int))).1.2.2),
 (mval tythread g_2.2.2.2.1
 (g.1.getD g_2.2.2.1.toNat (-1 : Int))).2.1,
 g_2.1 + (1 : Int),
 (mval tythread g_2.2.2.2.1
 (g.1.getD g_2.2.2.1.toNat
 (-1 : Int))).2.2.2) =
 mput tythread g_2.2.2.2.1
 (g.1.getD g_2.2.2.1.toNat (-1 : Int))
 (((mval tythread g_2.2.2.2.1
 (g.1.getD g_2.2.2.1.toNat (-1 : Int))).1.1,
 (mval tythread g_2.2.2.2.1
 (g.1.getD g_2.2.2.1.toNat
 (-1 : Int))).1.2.1,
 (mval tythread g_2.2.2.2.1
 (g.1.getD g_2.2.2.1.toNat
 (-1 : Int))).1.2.2),
 (mval tythread g_2.2.2.2.1
 (g.1.getD g_2.2.2.1.toNat (-1 : Int))).2.1,
 g_2.1 + (1 : Int),
 (mval tythread g_2.2.2.2.1
 (g.1.getD g_2.2.2.1.toNat
 (-1 : Int))).2.2.2) ∧
 g.1 = g.1 ∧
 g_1.2.1 = g_1.2.1 ∧ g_2.2.1 = g_2.2.1 ∧ True) ∧
 True) ∧
 (((mval tythread g_2.2.2.2.1
 (g.1.getD g_2.2.2.1.toNat (-1 : Int))).1.1 ==
 g_1.2.2.1) =
 false →
 ((g_2.1, g_2.2.2.2.1) =
 comeM g_1.2.2.1 g_2.1 g_2.2.2.2.1
 (g.1.getD g_2.2.2.1.toNat (-1 : Int)) ∧
 True) ∧
 (x.1 = x.1 ∧
 x.2.1 = x.2.1 ∧
 True ∧
 g_2.1 = g_2.1 ∧
 True ∧
 g_1.2.2.1 = g_1.2.2.1 ∧
 True ∧
 g.1.getD g_2.2.2.1.toNat (-1 : Int) =
 g.1.getD g_2.2.2.1.toNat (-1 : Int) ∧
 x.2.2.2.1 = x.2.2.2.1 ∧
 g_1.2.2.1 = g_1.2.2.1 ∧
 True ∧
 (↑g.1.length : Int) = (↑g.1.length : Int) ∧
 g_2.2.2.1 = g_2.2.2.1 ∧ True) ∧
 (g_2.2.2.2.1 = g_2.2.2.2.1 ∧
 g.1 = g.1 ∧
 g_1.2.1 = g_1.2.1 ∧ g_2.2.1 = g_2.2.1 ∧ True) ∧
 True)) ∧
 ∀ (g_3 : Int × List (Int × (Int × Int × Int) × Int × Int × Int) × Unit),
 (g_3.1, g_3.2.1) =
 comeM g_1.2.2.1 g_2.1 g_2.2.2.2.1
 (g.1.getD g_2.2.2.1.toNat (-1 : Int)) →
 ((-9223372036854775808 : Int) ≤ g_3.1 ∧ g_3.1 ≤ (9223372036854775807 : Int)) ∧
 ((List.map (fun x ↦ x.1) g_3.2.1).Nodup ∧
 ∀ (e : Int × (Int × Int × Int) × Int × Int × Int),
 e ∈ g_3.2.1 →
 (0 : Int) ≤ e.1 ∧
 (((-9223372036854775808 : Int) ≤ e.2.1.1 ∧
 e.2.1.1 ≤ (9223372036854775807 : Int)) ∧
 ((-9223372036854775808 : Int) ≤ e.2.1.2.1 ∧
 e.2.1.2.1 ≤ (9223372036854775807 : Int)) ∧
 (-9223372036854775808 : Int) ≤ e.2.1.2.2 ∧
 e.2.1.2.2 ≤ (9223372036854775807 : Int)) ∧
 ((-9223372036854775808 : Int) ≤ e.2.2.1 ∧
 e.2.2.1 ≤ (9223372036854775807 : Int)) ∧
 ((-9223372036854775808 : Int) ≤ e.2.2.2.1 ∧
 e.2.2.2.1 ≤ (9223372036854775807 : Int)) ∧
 (-9223372036854775808 : Int) ≤ e.2.2.2.2 ∧
 e.2.2.2.2 ≤ (9223372036854775807 : Int)) ∧
 True →
 (0 : Int) ≤ g.1.getD g_2.2.2.1.toNat (-1 : Int) ∧
 mhas tythread g_3.2.1 (g.1.getD g_2.2.2.1.toNat (-1 : Int)) = true ∧
 (decide
 ((mval tythread g_3.2.1
 (g.1.getD g_2.2.2.1.toNat (-1 : Int))).1.1 ≤
 g_1.2.2.1) =
 true →
 decide
 ((mval tythread g_3.2.1
 (g.1.getD g_2.2.2.1.toNat (-1 : Int))).1.1 ≤
 g_1.2.2.1) =
 true ∧
 (0 : Int) ≤ g.1.getD g_2.2.2.1.toNat (-1 : Int)) ∧
 (decide
 ((mval tythread g_3.2.1
 (g.1.getD g_2.2.2.1.toNat (-1 : Int))).1.1 ≤
 g_1.2.2.1) =
 true →
 decide
 ((mval tythread g_3.2.1
 (g.1.getD g_2.2.2.1.toNat (-1 : Int))).1.1 ≤
 g_1.2.2.1) =
 true) ∧
 (decide
 ((mval tythread g_3.2.1
 (g.1.getD g_2.2.2.1.toNat (-1 : Int))).1.1 ≤
 g_1.2.2.1) =
 true →
 decide
 ((mval tythread g_3.2.1
 (g.1.getD g_2.2.2.1.toNat (-1 : Int))).1.1 ≤
 g_1.2.2.1) =
 true) ∧
 (decide
 ((mval tythread g_3.2.1
 (g.1.getD g_2.2.2.1.toNat (-1 : Int))).1.1 ≤
 g_1.2.2.1) =
 true →
 decide
 ((mval tythread g_3.2.1
 (g.1.getD g_2.2.2.1.toNat (-1 : Int))).1.1 ≤
 g_1.2.2.1) =
 true ∧
 mhas tythread g_3.2.1
 (g.1.getD g_2.2.2.1.toNat (-1 : Int)) =
 true) ∧
 (decide
 ((mval tythread g_3.2.1
 (g.1.getD g_2.2.2.1.toNat (-1 : Int))).1.1 ≤
 g_1.2.2.1) =
 true →
 decide
 ((mval tythread g_3.2.1
 (g.1.getD g_2.2.2.1.toNat (-1 : Int))).1.1 ≤
 g_1.2.2.1) =
 true) ∧
 (decide
 ((mval tythread g_3.2.1
 (g.1.getD g_2.2.2.1.toNat (-1 : Int))).1.1 ≤
 g_1.2.2.1) =
 true →
 decide
 ((mval tythread g_3.2.1
 (g.1.getD g_2.2.2.1.toNat (-1 : Int))).1.1 ≤
 g_1.2.2.1) =
 true) ∧
 ((decide
 ((mval tythread g_3.2.1
 (g.1.getD g_2.2.2.1.toNat
 (-1 : Int))).1.1 ≤
 g_1.2.2.1) &&
 decide
 ((0 : Int) <
 (mval tythread g_3.2.1
 (g.1.getD g_2.2.2.1.toNat
 (-1 : Int))).1.2.2)) =
 true →
 (g_2.2.1.length +
 (((-1 : Int) :: ([] : List Int)).set (0 : Nat)
 (g.1.getD g_2.2.2.1.toNat (-1 : Int))).length ≤
 (9223372036854775807 : Nat) ∧
 (g_2.2.1.length +
 (((-1 : Int) :: ([] : List Int)).set (0 : Nat)
 (g.1.getD g_2.2.2.1.toNat
 (-1 : Int))).length +
 (g_2.2.1.length +
 (((-1 : Int) :: ([] : List Int)).set (0 : Nat)
 (g.1.getD g_2.2.2.1.toNat
 (-1 : Int))).length) /
 (4 : Nat) +
 (192 : Nat)) *
 (8 : Nat) ≤
 (281474976710656 : Nat)) ∧
 ((-9223372036854775808 : Int) ≤ g_2.2.2.1 + (1 : Int) ∧
 g_2.2.2.1 + (1 : Int) ≤ (9223372036854775807 : Int)) ∧
 (((0 : Int) ≤ g_2.2.2.1 + (1 : Int) ∧
 g_2.2.2.1 + (1 : Int) ≤
 (↑x.2.2.1.length : Int) ∧
 ((0 : Int) ≤ g_3.1 ∧
 g_3.1 ≤
 (100 : Int) * g_1.2.2.1 +
 (g_2.2.2.1 + (1 : Int))) ∧
 g_2.2.1 ++
 ((-1 : Int) :: ([] : List Int)).set (0 : Nat)
 (g.1.getD g_2.2.2.1.toNat
 (-1 : Int)) =
 rdy x.2.2.1 g_1.2.2.1 g_3.2.1
 (g_2.2.2.1 + (1 : Int)).toNat ∧
 ∃ q,
 q =
 (nst x.1 x.2.1 x.2.2.1
 g_1.2.2.1.toNat).1 ∧
 RT x.2.2.1 x.2.1 g_3.1 g.1
 g_3.2.1
 ((comes x.2.2.1 g_1.2.2.1
 (g_2.2.2.1 + (1 : Int)).toNat
 (q.1, q.2.1)).1,
 (comes x.2.2.1 g_1.2.2.1
 (g_2.2.2.1 + (1 : Int)).toNat
 (q.1, q.2.1)).2,
 q.2.2)) ∧
 ((↑x.2.2.1.length : Int) -
 (g_2.2.2.1 + (1 : Int))).toNat <
 ((↑x.2.2.1.length : Int) - g_2.2.2.1).toNat) ∧
 (x.1 = x.1 ∧
 x.2.1 = x.2.1 ∧
 True ∧
 g_3.1 = g_3.1 ∧
 True ∧
 g_1.2.2.1 = g_1.2.2.1 ∧
 True ∧
 x.2.2.2.1 = x.2.2.2.1 ∧
 g_1.2.2.1 = g_1.2.2.1 ∧
 True ∧
 (↑g.1.length : Int) =
 (↑g.1.length : Int) ∧
 g_2.2.2.1 + (1 : Int) =
 g_2.2.2.1 + (1 : Int) ∧
 True) ∧
 (g_2.2.1 ++
 ((-1 : Int) :: ([] : List Int)).set (0 : Nat)
 (g.1.getD g_2.2.2.1.toNat (-1 : Int)) =
 g_2.2.1 ++
 ((-1 : Int) :: ([] : List Int)).set (0 : Nat)
 (g.1.getD g_2.2.2.1.toNat (-1 : Int)) ∧
 g_3.2.1 = g_3.2.1 ∧
 g.1 = g.1 ∧ g_1.2.1 = g_1.2.1 ∧ True) ∧
 True) ∧
 ((decide
 ((mval tythread g_3.2.1
 (g.1.getD g_2.2.2.1.toNat
 (-1 : Int))).1.1 ≤
 g_1.2.2.1) &&
 decide
 ((0 : Int) <
 (mval tythread g_3.2.1
 (g.1.getD g_2.2.2.1.toNat
 (-1 : Int))).1.2.2)) =
 false →
 ((-9223372036854775808 : Int) ≤ g_2.2.2.1 + (1 : Int) ∧
 g_2.2.2.1 + (1 : Int) ≤ (9223372036854775807 : Int)) ∧
 (((0 : Int) ≤ g_2.2.2.1 + (1 : Int) ∧
 g_2.2.2.1 + (1 : Int) ≤
 (↑x.2.2.1.length : Int) ∧
 ((0 : Int) ≤ g_3.1 ∧
 g_3.1 ≤
 (100 : Int) * g_1.2.2.1 +
 (g_2.2.2.1 + (1 : Int))) ∧
 g_2.2.1 =
 rdy x.2.2.1 g_1.2.2.1 g_3.2.1
 (g_2.2.2.1 + (1 : Int)).toNat ∧
 ∃ q,
 q =
 (nst x.1 x.2.1 x.2.2.1
 g_1.2.2.1.toNat).1 ∧
 RT x.2.2.1 x.2.1 g_3.1 g.1
 g_3.2.1
 ((comes x.2.2.1 g_1.2.2.1
 (g_2.2.2.1 + (1 : Int)).toNat
 (q.1, q.2.1)).1,
 (comes x.2.2.1 g_1.2.2.1
 (g_2.2.2.1 + (1 : Int)).toNat
 (q.1, q.2.1)).2,
 q.2.2)) ∧
 ((↑x.2.2.1.length : Int) -
 (g_2.2.2.1 + (1 : Int))).toNat <
 ((↑x.2.2.1.length : Int) - g_2.2.2.1).toNat) ∧
 (x.1 = x.1 ∧
 x.2.1 = x.2.1 ∧
 True ∧
 g_3.1 = g_3.1 ∧
 True ∧
 g_1.2.2.1 = g_1.2.2.1 ∧
 True ∧
 x.2.2.2.1 = x.2.2.2.1 ∧
 g_1.2.2.1 = g_1.2.2.1 ∧
 True ∧
 (↑g.1.length : Int) =
 (↑g.1.length : Int) ∧
 g_2.2.2.1 + (1 : Int) =
 g_2.2.2.1 + (1 : Int) ∧
 True) ∧
 (g_2.2.1 = g_2.2.1 ∧
 g_3.2.1 = g_3.2.1 ∧
 g.1 = g.1 ∧ g_1.2.1 = g_1.2.1 ∧ True) ∧
 True)) ∧
 (decide (g_2.2.2.1 < (↑g.1.length : Int)) = false →
 Holds
 (g_2.2.1.length ≤ (64 : Nat) ∧
 (∀ (g : Int), g ∈ g_2.2.1 → mhas tythread g_2.2.2.2.1 g = true) ∧
 ∀ (g : Int),
 g ∈ g_2.2.1 →
 ∀ (b : Int),
 b ∈ g_2.2.1 →
 levO g_2.2.2.2.1 g = levO g_2.2.2.2.1 b →
 trnO g_2.2.2.2.1 g = trnO g_2.2.2.2.1 b → g = b) ∧
 ((True ∧
 Value.func (Fn.func (49 : Nat)) ([] : List Value).toArray ([] : List Value).toArray =
 Value.func (Fn.func (49 : FuncId)) ([] : List Value).toArray
 ([] : List Value).toArray ∧
 True) ∧
 g_2.2.1 = g_2.2.1 ∧ g_2.2.2.2.1 = g_2.2.2.2.1 ∧ True) ∧
 (((0 : Int) ≤ (0 : Int) ∧
 (0 : Int) ≤ min x.1 (↑(sortT g_2.2.2.2.1 g_2.2.1).length : Int)) ∧
 min x.1 (↑(sortT g_2.2.2.2.1 g_2.2.1).length : Int) ≤
 (↑(sortT g_2.2.2.2.1 g_2.2.1).length : Int)) ∧
 ((((0 : Int) ≤ (0 : Int) ∧
 (0 : Int) ≤
 (↑(List.drop (Int.toNat (0 : Int))
 (List.take
 (min x.1
 (↑(sortT g_2.2.2.2.1 g_2.2.1).length : Int)).toNat
 (sortT g_2.2.2.2.1 g_2.2.1))).length :
 Int) ∧
 ((0 : Int) ≤ g_2.1 ∧
 g_2.1 ≤ (100 : Int) * g_1.2.2.1 + (64 : Int) + (0 : Int)) ∧
 ∃ q,
 q = (nst x.1 x.2.1 x.2.2.1 g_1.2.2.1.toNat).1 ∧
 ([] : List Int) =
 List.take (Int.toNat (0 : Int))
 (runs x.1 x.2.2.1 g_1.2.2.1 q) ∧
 RT x.2.2.1 x.2.1 g_2.1 g.1 g_2.2.2.2.1
 (List.foldl (stA x.2.1) (mid x.2.2.1 g_1.2.2.1 q)
 (List.take (Int.toNat (0 : Int))
 (runs x.1 x.2.2.1 g_1.2.2.1 q)))) ∧
 True) ∧
 (x.1 = x.1 ∧
 x.2.1 = x.2.1 ∧
 True ∧
 g_2.1 = g_2.1 ∧
 True ∧
 True ∧
 x.2.2.2.1 = x.2.2.2.1 ∧
 g_1.2.2.1 = g_1.2.2.1 ∧
 List.drop (Int.toNat (0 : Int))
 (List.take
 (min x.1
 (↑(sortT g_2.2.2.2.1 g_2.2.1).length :
 Int)).toNat
 (sortT g_2.2.2.2.1 g_2.2.1)) =
 List.drop (Int.toNat (0 : Int))
 (List.take
 (min x.1
 (↑(sortT g_2.2.2.2.1 g_2.2.1).length :
 Int)).toNat
 (sortT g_2.2.2.2.1 g_2.2.1)) ∧
 (↑(List.drop (Int.toNat (0 : Int))
 (List.take
 (min x.1
 (↑(sortT g_2.2.2.2.1 g_2.2.1).length :
 Int)).toNat
 (sortT g_2.2.2.2.1 g_2.2.1))).length :
 Int) =
 (↑(List.drop (Int.toNat (0 : Int))
 (List.take
 (min x.1
 (↑(sortT g_2.2.2.2.1 g_2.2.1).length :
 Int)).toNat
 (sortT g_2.2.2.2.1 g_2.2.1))).length :
 Int) ∧
 (0 : Int) = (0 : Int) ∧ True) ∧
 (([] : List Int) = ([] : List Int) ∧
 g_2.2.2.2.1 = g_2.2.2.2.1 ∧
 g.1 = g.1 ∧ g_1.2.1 = g_1.2.1 ∧ True) ∧
 True) ∧
 ∀ (g_3 : Int × List Int × Int × List (Int × (Int × Int × Int) × Int × Int × Int) × Unit),
 ((0 : Int) ≤ g_3.2.2.1 ∧
 g_3.2.2.1 ≤
 (↑(List.drop (Int.toNat (0 : Int))
 (List.take
 (min x.1
 (↑(sortT g_2.2.2.2.1 g_2.2.1).length : Int)).toNat
 (sortT g_2.2.2.2.1 g_2.2.1))).length :
 Int) ∧
 ((0 : Int) ≤ g_3.1 ∧
 g_3.1 ≤ (100 : Int) * g_1.2.2.1 + (64 : Int) + g_3.2.2.1) ∧
 ∃ q,
 q = (nst x.1 x.2.1 x.2.2.1 g_1.2.2.1.toNat).1 ∧
 g_3.2.1 =
 List.take g_3.2.2.1.toNat
 (runs x.1 x.2.2.1 g_1.2.2.1 q) ∧
 RT x.2.2.1 x.2.1 g_3.1 g.1 g_3.2.2.2.1
 (List.foldl (stA x.2.1) (mid x.2.2.1 g_1.2.2.1 q)
 (List.take g_3.2.2.1.toNat
 (runs x.1 x.2.2.1 g_1.2.2.1 q)))) →
 ((-9223372036854775808 : Int) ≤ g_3.1 ∧ g_3.1 ≤ (9223372036854775807 : Int)) ∧
 (g_3.2.1.length ≤ (9223372036854775807 : Nat) ∧
 ∀ (x : Int),
 x ∈ g_3.2.1 →
 (-9223372036854775808 : Int) ≤ x ∧ x ≤ (9223372036854775807 : Int)) ∧
 ((-9223372036854775808 : Int) ≤ g_3.2.2.1 ∧
 g_3.2.2.1 ≤ (9223372036854775807 : Int)) ∧
 ((List.map (fun x ↦ x.1) g_3.2.2.2.1).Nodup ∧
 ∀ (e : Int × (Int × Int × Int) × Int × Int × Int),
 e ∈ g_3.2.2.2.1 →
 (0 : Int) ≤ e.1 ∧
 (((-9223372036854775808 : Int) ≤ e.2.1.1 ∧
 e.2.1.1 ≤ (9223372036854775807 : Int)) ∧
 ((-9223372036854775808 : Int) ≤ e.2.1.2.1 ∧
 e.2.1.2.1 ≤ (9223372036854775807 : Int)) ∧
 (-9223372036854775808 : Int) ≤ e.2.1.2.2 ∧
 e.2.1.2.2 ≤ (9223372036854775807 : Int)) ∧
 ((-9223372036854775808 : Int) ≤ e.2.2.1 ∧
 e.2.2.1 ≤ (9223372036854775807 : Int)) ∧
 ((-9223372036854775808 : Int) ≤ e.2.2.2.1 ∧
 e.2.2.2.1 ≤ (9223372036854775807 : Int)) ∧
 (-9223372036854775808 : Int) ≤ e.2.2.2.2 ∧
 e.2.2.2.2 ≤ (9223372036854775807 : Int)) ∧
 True →
 (decide
 (g_3.2.2.1 <
 (↑(List.drop (Int.toNat (0 : Int))
 (List.take
 (min x.1
 (↑(sortT g_2.2.2.2.1 g_2.2.1).length :
 Int)).toNat
 (sortT g_2.2.2.2.1 g_2.2.1))).length :
 Int)) =
 true →
 ((0 : Int) ≤ g_3.2.2.1 ∧
 g_3.2.2.1 <
 (↑(List.drop (Int.toNat (0 : Int))
 (List.take
 (min x.1
 (↑(sortT g_2.2.2.2.1 g_2.2.1).length :
 Int)).toNat
 (sortT g_2.2.2.2.1 g_2.2.1))).length :
 Int)) ∧
 (0 : Int) ≤
 (List.drop (Int.toNat (0 : Int))
 (List.take
 (min x.1
 (↑(sortT g_2.2.2.2.1 g_2.2.1).length : Int)).toNat
 (sortT g_2.2.2.2.1 g_2.2.1))).getD
 g_3.2.2.1.toNat (-1 : Int) ∧
 mhas tythread g_3.2.2.2.1
 ((List.drop (Int.toNat (0 : Int))
 (List.take
 (min x.1
 (↑(sortT g_2.2.2.2.1 g_2.2.1).length :
 Int)).toNat
 (sortT g_2.2.2.2.1 g_2.2.1))).getD
 g_3.2.2.1.toNat (-1 : Int)) =
 true ∧
 (g_3.2.1.length +
 (((0 : Int) :: ([] : List Int)).set (0 : Nat)
 (mval tythread g_3.2.2.2.1
 ((List.drop (Int.toNat (0 : Int))
 (List.take
 (min x.1
 (↑(sortT g_2.2.2.2.1
 g_2.2.1).length :
 Int)).toNat
 (sortT g_2.2.2.2.1 g_2.2.1))).getD
 g_3.2.2.1.toNat (-1 : Int))).2.1).length ≤
 (9223372036854775807 : Nat) ∧
 (g_3.2.1.length +
 (((0 : Int) :: ([] : List Int)).set (0 : Nat)
 (mval tythread g_3.2.2.2.1
 ((List.drop (Int.toNat (0 : Int))
 (List.take
 (min x.1
 (↑(sortT g_2.2.2.2.1
 g_2.2.1).length :
 Int)).toNat
 (sortT g_2.2.2.2.1
 g_2.2.1))).getD
 g_3.2.2.1.toNat
 (-1 : Int))).2.1).length +
 (g_3.2.1.length +
 (((0 : Int) :: ([] : List Int)).set (0 : Nat)
 (mval tythread g_3.2.2.2.1
 ((List.drop (Int.toNat (0 : Int))
 (List.take
 (min x.1
 (↑(sortT g_2.2.2.2.1
 g_2.2.1).length :
 Int)).toNat
 (sortT g_2.2.2.2.1
 g_2.2.1))).getD
 g_3.2.2.1.toNat
 (-1 : Int))).2.1).length) /
 (4 : Nat) +
 (192 : Nat)) *
 (8 : Nat) ≤
 (281474976710656 : Nat)) ∧
 ((0 : Int) ≤
 (List.drop (Int.toNat (0 : Int))
 (List.take
 (min x.1
 (↑(sortT g_2.2.2.2.1 g_2.2.1).length :
 Int)).toNat
 (sortT g_2.2.2.2.1 g_2.2.1))).getD
 g_3.2.2.1.toNat (-1 : Int) ∧
 mhas tythread g_3.2.2.2.1
 ((List.drop (Int.toNat (0 : Int))
 (List.take
 (min x.1
 (↑(sortT g_2.2.2.2.1 g_2.2.1).length :
 Int)).toNat
 (sortT g_2.2.2.2.1 g_2.2.1))).getD
 g_3.2.2.1.toNat (-1 : Int)) =
 true ∧
 ((-9223372036854775808 : Int) ≤
 (mval tythread g_3.2.2.2.1
 ((List.drop (Int.toNat (0 : Int))
 (List.take
 (min x.1
 (↑(sortT g_2.2.2.2.1
 g_2.2.1).length :
 Int)).toNat
 (sortT g_2.2.2.2.1
 g_2.2.1))).getD
 g_3.2.2.1.toNat (-1 : Int))).1.2.2 -
 (1 : Int) ∧
 (mval tythread g_3.2.2.2.1
 ((List.drop (Int.toNat (0 : Int))
 (List.take
 (min x.1
 (↑(sortT g_2.2.2.2.1
 g_2.2.1).length :
 Int)).toNat
 (sortT g_2.2.2.2.1
 g_2.2.1))).getD
 g_3.2.2.1.toNat (-1 : Int))).1.2.2 -
 (1 : Int) ≤
 (9223372036854775807 : Int)) ∧
 (0 : Int) ≤
 (List.drop (Int.toNat (0 : Int))
 (List.take
 (min x.1
 (↑(sortT g_2.2.2.2.1
 g_2.2.1).length :
 Int)).toNat
 (sortT g_2.2.2.2.1 g_2.2.1))).getD
 g_3.2.2.1.toNat (-1 : Int) ∧
 mhas tythread g_3.2.2.2.1
 ((List.drop (Int.toNat (0 : Int))
 (List.take
 (min x.1
 (↑(sortT g_2.2.2.2.1
 g_2.2.1).length :
 Int)).toNat
 (sortT g_2.2.2.2.1 g_2.2.1))).getD
 g_3.2.2.1.toNat (-1 : Int)) =
 true ∧
 (mput tythread g_3.2.2.2.1
 ((List.drop (Int.toNat (0 : Int))
 (List.take
 (min x.1
 (↑(sortT g_2.2.2.2.1
 g_2.2.1).length :
 Int)).toNat
 (sortT g_2.2.2.2.1
 g_2.2.1))).getD
 g_3.2.2.1.toNat (-1 : Int))
 (((mval tythread g_3.2.2.2.1
 ((List.drop (Int.toNat (0 : Int))
 (List.take
 (min x.1
 (↑(sortT g_2.2.2.2.1
 g_2.2.1).length :
 Int)).toNat
 (sortT g_2.2.2.2.1
 g_2.2.1))).getD
 g_3.2.2.1.toNat
 (-1 : Int))).1.1,
 (mval tythread g_3.2.2.2.1
 ((List.drop (Int.toNat (0 : Int))
 (List.take
 (min x.1
 (↑(sortT g_2.2.2.2.1
 g_2.2.1).length :
 Int)).toNat
 (sortT g_2.2.2.2.1
 g_2.2.1))).getD
 g_3.2.2.1.toNat
 (-1 : Int))).1.2.1,
 (mval tythread g_3.2.2.2.1
 ((List.drop (Int.toNat (0 : Int))
 (List.take
 (min x.1
 (↑(sortT
 g_2.2.2.2.1
 g_2.2.1).length :
 Int)).toNat
 (sortT g_2.2.2.2.1
 g_2.2.1))).getD
 g_3.2.2.1.toNat
 (-1 : Int))).1.2.2 -
 (1 : Int)),
 (mval tythread g_3.2.2.2.1
 ((List.drop (Int.toNat (0 : Int))
 (List.take
 (min x.1
 (↑(sortT g_2.2.2.2.1
 g_2.2.1).length :
 Int)).toNat
 (sortT g_2.2.2.2.1
 g_2.2.1))).getD
 g_3.2.2.1.toNat
 (-1 : Int))).2.1,
 (mval tythread g_3.2.2.2.1
 ((List.drop (Int.toNat (0 : Int))
 (List.take
 (min x.1
 (↑(sortT g_2.2.2.2.1
 g_2.2.1).length :
 Int)).toNat
 (sortT g_2.2.2.2.1
 g_2.2.1))).getD
 g_3.2.2.1.toNat
 (-1 : Int))).2.2.1,
 (mval tythread g_3.2.2.2.1
 ((List.drop (Int.toNat (0 : Int))
 (List.take
 (min x.1
 (↑(sortT g_2.2.2.2.1
 g_2.2.1).length :
 Int)).toNat
 (sortT g_2.2.2.2.1
 g_2.2.1))).getD
 g_3.2.2.1.toNat
 (-1 : Int))).2.2.2) =
 decW g_3.2.2.2.1
 ((List.drop (Int.toNat (0 : Int))
 (List.take
 (min x.1
 (↑(sortT g_2.2.2.2.1
 g_2.2.1).length :
 Int)).toNat
 (sortT g_2.2.2.2.1
 g_2.2.1))).getD
 g_3.2.2.1.toNat (-1 : Int)) ∧
 True) ∧
 (x.1 = x.1 ∧
 x.2.1 = x.2.1 ∧
 True ∧
 g_3.1 = g_3.1 ∧
 True ∧
 True ∧
 (List.drop (Int.toNat (0 : Int))
 (List.take
 (min x.1
 (↑(sortT g_2.2.2.2.1
 g_2.2.1).length :
 Int)).toNat
 (sortT g_2.2.2.2.1
 g_2.2.1))).getD
 g_3.2.2.1.toNat (-1 : Int) =
 (List.drop (Int.toNat (0 : Int))
 (List.take
 (min x.1
 (↑(sortT g_2.2.2.2.1
 g_2.2.1).length :
 Int)).toNat
 (sortT g_2.2.2.2.1
 g_2.2.1))).getD
 g_3.2.2.1.toNat (-1 : Int) ∧
 x.2.2.2.1 = x.2.2.2.1 ∧
 g_1.2.2.1 = g_1.2.2.1 ∧
 List.drop (Int.toNat (0 : Int))
 (List.take
 (min x.1
 (↑(sortT
 g_2.2.2.2.1
 g_2.2.1).length :
 Int)).toNat
 (sortT g_2.2.2.2.1
 g_2.2.1)) =
 List.drop (Int.toNat (0 : Int))
 (List.take
 (min x.1
 (↑(sortT
 g_2.2.2.2.1
 g_2.2.1).length :
 Int)).toNat
 (sortT g_2.2.2.2.1
 g_2.2.1)) ∧
 (↑(List.drop (Int.toNat (0 : Int))
 (List.take
 (min x.1
 (↑(sortT
 g_2.2.2.2.1
 g_2.2.1).length :
 Int)).toNat
 (sortT
 g_2.2.2.2.1
 g_2.2.1))).length :
 Int) =
 (↑(List.drop
 (Int.toNat (0 : Int))
 (List.take
 (min x.1
 (↑(sortT
 g_2.2.2.2.1
 g_2.2.1).length :
 Int)).toNat
 (sortT
 g_2.2.2.2.1
 g_2.2.1))).length :
 Int) ∧
 g_3.2.2.1 =
 g_3.2.2.1 ∧
 True) ∧
 (mput tythread g_3.2.2.2.1
 ((List.drop (Int.toNat (0 : Int))
 (List.take
 (min x.1
 (↑(sortT g_2.2.2.2.1
 g_2.2.1).length :
 Int)).toNat
 (sortT g_2.2.2.2.1
 g_2.2.1))).getD
 g_3.2.2.1.toNat (-1 : Int))
 (((mval tythread g_3.2.2.2.1
 ((List.drop (Int.toNat (0 : Int))
 (List.take
 (min x.1
 (↑(sortT
 g_2.2.2.2.1
 g_2.2.1).length :
 Int)).toNat
 (sortT g_2.2.2.2.1
 g_2.2.1))).getD
 g_3.2.2.1.toNat
 (-1 : Int))).1.1,
 (mval tythread g_3.2.2.2.1
 ((List.drop (Int.toNat (0 : Int))
 (List.take
 (min x.1
 (↑(sortT
 g_2.2.2.2.1
 g_2.2.1).length :
 Int)).toNat
 (sortT g_2.2.2.2.1
 g_2.2.1))).getD
 g_3.2.2.1.toNat
 (-1 : Int))).1.2.1,
 (mval tythread g_3.2.2.2.1
 ((List.drop (Int.toNat (0 : Int))
 (List.take
 (min x.1
 (↑(sortT
 g_2.2.2.2.1
 g_2.2.1).length :
 Int)).toNat
 (sortT g_2.2.2.2.1
 g_2.2.1))).getD
 g_3.2.2.1.toNat
 (-1 : Int))).1.2.2 -
 (1 : Int)),
 (mval tythread g_3.2.2.2.1
 ((List.drop (Int.toNat (0 : Int))
 (List.take
 (min x.1
 (↑(sortT g_2.2.2.2.1
 g_2.2.1).length :
 Int)).toNat
 (sortT g_2.2.2.2.1
 g_2.2.1))).getD
 g_3.2.2.1.toNat
 (-1 : Int))).2.1,
 (mval tythread g_3.2.2.2.1
 ((List.drop (Int.toNat (0 : Int))
 (List.take
 (min x.1
 (↑(sortT
 g_2.2.2.2.1
 g_2.2.1).length :
 Int)).toNat
 (sortT g_2.2.2.2.1
 g_2.2.1))).getD
 g_3.2.2.1.toNat
 (-1 : Int))).2.2.1,
 (mval tythread g_3.2.2.2.1
 ((List.drop (Int.toNat (0 : Int))
 (List.take
 (min x.1
 (↑(sortT
 g_2.2.2.2.1
 g_2.2.1).length :
 Int)).toNat
 (sortT g_2.2.2.2.1
 g_2.2.1))).getD
 g_3.2.2.1.toNat
 (-1 : Int))).2.2.2) =
 mput tythread g_3.2.2.2.1
 ((List.drop (Int.toNat (0 : Int))
 (List.take
 (min x.1
 (↑(sortT g_2.2.2.2.1
 g_2.2.1).length :
 Int)).toNat
 (sortT g_2.2.2.2.1
 g_2.2.1))).getD
 g_3.2.2.1.toNat (-1 : Int))
 (((mval tythread g_3.2.2.2.1
 ((List.drop (Int.toNat (0 : Int))
 (List.take
 (min x.1
 (↑(sortT
 g_2.2.2.2.1
 g_2.2.1).length :
 Int)).toNat
 (sortT g_2.2.2.2.1
 g_2.2.1))).getD
 g_3.2.2.1.toNat
 (-1 : Int))).1.1,
 (mval tythread g_3.2.2.2.1
 ((List.drop (Int.toNat (0 : Int))
 (List.take
 (min x.1
 (↑(sortT
 g_2.2.2.2.1
 g_2.2.1).length :
 Int)).toNat
 (sortT g_2.2.2.2.1
 g_2.2.1))).getD
 g_3.2.2.1.toNat
 (-1 : Int))).1.2.1,
 (mval tythread g_3.2.2.2.1
 ((List.drop (Int.toNat (0 : Int))
 (List.take
 (min x.1
 (↑(sortT
 g_2.2.2.2.1
 g_2.2.1).length :
 Int)).toNat
 (sortT g_2.2.2.2.1
 g_2.2.1))).getD
 g_3.2.2.1.toNat
 (-1 : Int))).1.2.2 -
 (1 : Int)),
 (mval tythread g_3.2.2.2.1
 ((List.drop (Int.toNat (0 : Int))
 (List.take
 (min x.1
 (↑(sortT g_2.2.2.2.1
 g_2.2.1).length :
 Int)).toNat
 (sortT g_2.2.2.2.1
 g_2.2.1))).getD
 g_3.2.2.1.toNat
 (-1 : Int))).2.1,
 (mval tythread g_3.2.2.2.1
 ((List.drop (Int.toNat (0 : Int))
 (List.take
 (min x.1
 (↑(sortT
 g_2.2.2.2.1
 g_2.2.1).length :
 Int)).toNat
 (sortT g_2.2.2.2.1
 g_2.2.1))).getD
 g_3.2.2.1.toNat
 (-1 : Int))).2.2.1,
 (mval tythread g_3.2.2.2.1
 ((List.drop (Int.toNat (0 : Int))
 (List.take
 (min x.1
 (↑(sortT
 g_2.2.2.2.1
 g_2.2.1).length :
 Int)).toNat
 (sortT g_2.2.2.2.1
 g_2.2.1))).getD
 g_3.2.2.1.toNat
 (-1 : Int))).2.2.2) ∧
 g.1 = g.1 ∧
 g_1.2.1 = g_1.2.1 ∧
 g_3.2.1 ++
 ((0 : Int) :: ([] : List Int)).set
 (0 : Nat)
 (mval tythread g_3.2.2.2.1
 ((List.drop (Int.toNat (0 : Int))
 (List.take
 (min x.1
 (↑(sortT
 g_2.2.2.2.1
 g_2.2.1).length :
 Int)).toNat
 (sortT g_2.2.2.2.1
 g_2.2.1))).getD
 g_3.2.2.1.toNat
 (-1 : Int))).2.1 =
 g_3.2.1 ++
 ((0 : Int) :: ([] : List Int)).set
 (0 : Nat)
 (mval tythread g_3.2.2.2.1
 ((List.drop (Int.toNat (0 : Int))
 (List.take
 (min x.1
 (↑(sortT
 g_2.2.2.2.1
 g_2.2.1).length :
 Int)).toNat
 (sortT g_2.2.2.2.1
 g_2.2.1))).getD
 g_3.2.2.1.toNat
 (-1 : Int))).2.1 ∧
 True) ∧
 True) ∧
 ∀ (g_4 : List (Int × (Int × Int × Int) × Int × Int × Int) × Unit),
 g_4.1 =
 decW g_3.2.2.2.1
 ((List.drop (Int.toNat (0 : Int))
 (List.take
 (min x.1
 (↑(sortT g_2.2.2.2.1 g_2.2.1).length :
 Int)).toNat
 (sortT g_2.2.2.2.1 g_2.2.1))).getD
 g_3.2.2.1.toNat (-1 : Int)) →
 ((List.map (fun x ↦ x.1) g_4.1).Nodup ∧
 ∀ (e : Int × (Int × Int × Int) × Int × Int × Int),
 e ∈ g_4.1 →
 (0 : Int) ≤ e.1 ∧
 (((-9223372036854775808 : Int) ≤ e.2.1.1 ∧
 e.2.1.1 ≤ (9223372036854775807 : Int)) ∧
 ((-9223372036854775808 : Int) ≤
 e.2.1.2.1 ∧
 e.2.1.2.1 ≤
 (9223372036854775807 : Int)) ∧
 (-9223372036854775808 : Int) ≤
 e.2.1.2.2 ∧
 e.2.1.2.2 ≤
 (9223372036854775807 : Int)) ∧
 ((-9223372036854775808 : Int) ≤ e.2.2.1 ∧
 e.2.2.1 ≤ (9223372036854775807 : Int)) ∧
 ((-9223372036854775808 : Int) ≤
 e.2.2.2.1 ∧
 e.2.2.2.1 ≤
 (9223372036854775807 : Int)) ∧
 (-9223372036854775808 : Int) ≤
 e.2.2.2.2 ∧
 e.2.2.2.2 ≤
 (9223372036854775807 : Int)) ∧
 True →
 ((0 : Int) ≤
 (List.drop (Int.toNat (0 : Int))
 (List.take
 (min x.1
 (↑(sortT g_2.2.2.2.1
 g_2.2.1).length :
 Int)).toNat
 (sortT g_2.2.2.2.1 g_2.2.1))).getD
 g_3.2.2.1.toNat (-1 : Int) ∧
 mhas tythread g_4.1
 ((List.drop (Int.toNat (0 : Int))
 (List.take
 (min x.1
 (↑(sortT g_2.2.2.2.1
 g_2.2.1).length :
 Int)).toNat
 (sortT g_2.2.2.2.1 g_2.2.1))).getD
 g_3.2.2.1.toNat (-1 : Int)) =
 true ∧
 ((-9223372036854775808 : Int) ≤
 (mval tythread g_4.1
 ((List.drop (Int.toNat (0 : Int))
 (List.take
 (min x.1
 (↑(sortT g_2.2.2.2.1
 g_2.2.1).length :
 Int)).toNat
 (sortT g_2.2.2.2.1
 g_2.2.1))).getD
 g_3.2.2.1.toNat
 (-1 : Int))).2.2.2 +
 (1 : Int) ∧
 (mval tythread g_4.1
 ((List.drop (Int.toNat (0 : Int))
 (List.take
 (min x.1
 (↑(sortT g_2.2.2.2.1
 g_2.2.1).length :
 Int)).toNat
 (sortT g_2.2.2.2.1
 g_2.2.1))).getD
 g_3.2.2.1.toNat
 (-1 : Int))).2.2.2 +
 (1 : Int) ≤
 (9223372036854775807 : Int)) ∧
 (0 : Int) ≤
 (List.drop (Int.toNat (0 : Int))
 (List.take
 (min x.1
 (↑(sortT g_2.2.2.2.1
 g_2.2.1).length :
 Int)).toNat
 (sortT g_2.2.2.2.1
 g_2.2.1))).getD
 g_3.2.2.1.toNat (-1 : Int) ∧
 mhas tythread g_4.1
 ((List.drop (Int.toNat (0 : Int))
 (List.take
 (min x.1
 (↑(sortT g_2.2.2.2.1
 g_2.2.1).length :
 Int)).toNat
 (sortT g_2.2.2.2.1
 g_2.2.1))).getD
 g_3.2.2.1.toNat (-1 : Int)) =
 true ∧
 (mput tythread g_4.1
 ((List.drop (Int.toNat (0 : Int))
 (List.take
 (min x.1
 (↑(sortT g_2.2.2.2.1
 g_2.2.1).length :
 Int)).toNat
 (sortT g_2.2.2.2.1
 g_2.2.1))).getD
 g_3.2.2.1.toNat (-1 : Int))
 (((mval tythread g_4.1
 ((List.drop (Int.toNat (0 : Int))
 (List.take
 (min x.1
 (↑(sortT
 g_2.2.2.2.1
 g_2.2.1).length :
 Int)).toNat
 (sortT g_2.2.2.2.1
 g_2.2.1))).getD
 g_3.2.2.1.toNat
 (-1 : Int))).1.1,
 (mval tythread g_4.1
 ((List.drop
 (Int.toNat (0 : Int))
 (List.take
 (min x.1
 (↑(sortT
 g_2.2.2.2.1
 g_2.2.1).length :
 Int)).toNat
 (sortT
 g_2.2.2.2.1
 g_2.2.1))).getD
 g_3.2.2.1.toNat
 (-1 : Int))).1.2.1,
 (mval tythread g_4.1
 ((List.drop
 (Int.toNat (0 : Int))
 (List.take
 (min x.1
 (↑(sortT
 g_2.2.2.2.1
 g_2.2.1).length :
 Int)).toNat
 (sortT
 g_2.2.2.2.1
 g_2.2.1))).getD
 g_3.2.2.1.toNat
 (-1 : Int))).1.2.2),
 (mval tythread g_4.1
 ((List.drop (Int.toNat (0 : Int))
 (List.take
 (min x.1
 (↑(sortT
 g_2.2.2.2.1
 g_2.2.1).length :
 Int)).toNat
 (sortT g_2.2.2.2.1
 g_2.2.1))).getD
 g_3.2.2.1.toNat
 (-1 : Int))).2.1,
 (mval tythread g_4.1
 ((List.drop (Int.toNat (0 : Int))
 (List.take
 (min x.1
 (↑(sortT
 g_2.2.2.2.1
 g_2.2.1).length :
 Int)).toNat
 (sortT g_2.2.2.2.1
 g_2.2.1))).getD
 g_3.2.2.1.toNat
 (-1 : Int))).2.2.1,
 (mval tythread g_4.1
 ((List.drop
 (Int.toNat (0 : Int))
 (List.take
 (min x.1
 (↑(sortT
 g_2.2.2.2.1
 g_2.2.1).length :
 Int)).toNat
 (sortT
 g_2.2.2.2.1
 g_2.2.1))).getD
 g_3.2.2.1.toNat
 (-1 : Int))).2.2.2 +
 (1 : Int)) =
 incU g_4.1
 ((List.drop (Int.toNat (0 : Int))
 (List.take
 (min x.1
 (↑(sortT g_2.2.2.2.1
 g_2.2.1).length :
 Int)).toNat
 (sortT g_2.2.2.2.1
 g_2.2.1))).getD
 g_3.2.2.1.toNat (-1 : Int)) ∧
 True) ∧
 (x.1 = x.1 ∧
 x.2.1 = x.2.1 ∧
 True ∧
 g_3.1 = g_3.1 ∧
 True ∧
 True ∧
 (List.drop (Int.toNat (0 : Int))
 (List.take
 (min x.1
 (↑(sortT
 g_2.2.2.2.1
 g_2.2.1).length :
 Int)).toNat
 (sortT
 g_2.2.2.2.1
 g_2.2.1))).getD
 g_3.2.2.1.toNat
 (-1 : Int) =
 (List.drop (Int.toNat (0 : Int))
 (List.take
 (min x.1
 (↑(sortT
 g_2.2.2.2.1
 g_2.2.1).length :
 Int)).toNat
 (sortT
 g_2.2.2.2.1
 g_2.2.1))).getD
 g_3.2.2.1.toNat
 (-1 : Int) ∧
 x.2.2.2.1 =
 x.2.2.2.1 ∧
 g_1.2.2.1 =
 g_1.2.2.1 ∧
 List.drop
 (Int.toNat (0 : Int))
 (List.take
 (min x.1
 (↑(sortT
 g_2.2.2.2.1
 g_2.2.1).length :
 Int)).toNat
 (sortT
 g_2.2.2.2.1
 g_2.2.1)) =
 List.drop
 (Int.toNat (0 : Int))
 (List.take
 (min x.1
 (↑(sortT
 g_2.2.2.2.1
 g_2.2.1).length :
 Int)).toNat
 (sortT
 g_2.2.2.2.1
 g_2.2.1)) ∧
 (↑(List.drop
 (Int.toNat
 (0 : Int))
 (List.take
 (min x.1
 (↑(sortT
 g_2.2.2.2.1
 g_2.2.1).length :
 Int)).toNat
 (sortT
 g_2.2.2.2.1
 g_2.2.1))).length :
 Int) =
 (↑(List.drop
 (Int.toNat
 (0 : Int))
 (List.take
 (min x.1
 (↑(sortT
 g_2.2.2.2.1
 g_2.2.1).length :
 Int)).toNat
 (sortT
 g_2.2.2.2.1
 g_2.2.1))).length :
 Int) ∧
 g_3.2.2.1 =
 g_3.2.2.1 ∧
 True) ∧
 (mput tythread g_4.1
 ((List.drop (Int.toNat (0 : Int))
 (List.take
 (min x.1
 (↑(sortT g_2.2.2.2.1
 g_2.2.1).length :
 Int)).toNat
 (sortT g_2.2.2.2.1
 g_2.2.1))).getD
 g_3.2.2.1.toNat (-1 : Int))
 (((mval tythread g_4.1
 ((List.drop
 (Int.toNat (0 : Int))
 (List.take
 (min x.1
 (↑(sortT
 g_2.2.2.2.1
 g_2.2.1).length :
 Int)).toNat
 (sortT
 g_2.2.2.2.1
 g_2.2.1))).getD
 g_3.2.2.1.toNat
 (-1 : Int))).1.1,
 (mval tythread g_4.1
 ((List.drop
 (Int.toNat (0 : Int))
 (List.take
 (min x.1
 (↑(sortT
 g_2.2.2.2.1
 g_2.2.1).length :
 Int)).toNat
 (sortT
 g_2.2.2.2.1
 g_2.2.1))).getD
 g_3.2.2.1.toNat
 (-1 : Int))).1.2.1,
 (mval tythread g_4.1
 ((List.drop
 (Int.toNat (0 : Int))
 (List.take
 (min x.1
 (↑(sortT
 g_2.2.2.2.1
 g_2.2.1).length :
 Int)).toNat
 (sortT
 g_2.2.2.2.1
 g_2.2.1))).getD
 g_3.2.2.1.toNat
 (-1 : Int))).1.2.2),
 (mval tythread g_4.1
 ((List.drop
 (Int.toNat (0 : Int))
 (List.take
 (min x.1
 (↑(sortT
 g_2.2.2.2.1
 g_2.2.1).length :
 Int)).toNat
 (sortT
 g_2.2.2.2.1
 g_2.2.1))).getD
 g_3.2.2.1.toNat
 (-1 : Int))).2.1,
 (mval tythread g_4.1
 ((List.drop
 (Int.toNat (0 : Int))
 (List.take
 (min x.1
 (↑(sortT
 g_2.2.2.2.1
 g_2.2.1).length :
 Int)).toNat
 (sortT
 g_2.2.2.2.1
 g_2.2.1))).getD
 g_3.2.2.1.toNat
 (-1 : Int))).2.2.1,
 (mval tythread g_4.1
 ((List.drop
 (Int.toNat (0 : Int))
 (List.take
 (min x.1
 (↑(sortT
 g_2.2.2.2.1
 g_2.2.1).length :
 Int)).toNat
 (sortT
 g_2.2.2.2.1
 g_2.2.1))).getD
 g_3.2.2.1.toNat
 (-1 : Int))).2.2.2 +
 (1 : Int)) =
 mput tythread g_4.1
 ((List.drop (Int.toNat (0 : Int))
 (List.take
 (min x.1
 (↑(sortT g_2.2.2.2.1
 g_2.2.1).length :
 Int)).toNat
 (sortT g_2.2.2.2.1
 g_2.2.1))).getD
 g_3.2.2.1.toNat (-1 : Int))
 (((mval tythread g_4.1
 ((List.drop
 (Int.toNat (0 : Int))
 (List.take
 (min x.1
 (↑(sortT
 g_2.2.2.2.1
 g_2.2.1).length :
 Int)).toNat
 (sortT
 g_2.2.2.2.1
 g_2.2.1))).getD
 g_3.2.2.1.toNat
 (-1 : Int))).1.1,
 (mval tythread g_4.1
 ((List.drop
 (Int.toNat (0 : Int))
 (List.take
 (min x.1
 (↑(sortT
 g_2.2.2.2.1
 g_2.2.1).length :
 Int)).toNat
 (sortT
 g_2.2.2.2.1
 g_2.2.1))).getD
 g_3.2.2.1.toNat
 (-1 : Int))).1.2.1,
 (mval tythread g_4.1
 ((List.drop
 (Int.toNat (0 : Int))
 (List.take
 (min x.1
 (↑(sortT
 g_2.2.2.2.1
 g_2.2.1).length :
 Int)).toNat
 (sortT
 g_2.2.2.2.1
 g_2.2.1))).getD
 g_3.2.2.1.toNat
 (-1 : Int))).1.2.2),
 (mval tythread g_4.1
 ((List.drop
 (Int.toNat (0 : Int))
 (List.take
 (min x.1
 (↑(sortT
 g_2.2.2.2.1
 g_2.2.1).length :
 Int)).toNat
 (sortT
 g_2.2.2.2.1
 g_2.2.1))).getD
 g_3.2.2.1.toNat
 (-1 : Int))).2.1,
 (mval tythread g_4.1
 ((List.drop
 (Int.toNat (0 : Int))
 (List.take
 (min x.1
 (↑(sortT
 g_2.2.2.2.1
 g_2.2.1).length :
 Int)).toNat
 (sortT
 g_2.2.2.2.1
 g_2.2.1))).getD
 g_3.2.2.1.toNat
 (-1 : Int))).2.2.1,
 (mval tythread g_4.1
 ((List.drop
 (Int.toNat (0 : Int))
 (List.take
 (min x.1
 (↑(sortT
 g_2.2.2.2.1
 g_2.2.1).length :
 Int)).toNat
 (sortT
 g_2.2.2.2.1
 g_2.2.1))).getD
 g_3.2.2.1.toNat
 (-1 : Int))).2.2.2 +
 (1 : Int)) ∧
 g.1 = g.1 ∧
 g_1.2.1 = g_1.2.1 ∧
 g_3.2.1 ++
 ((0 : Int) :: ([] : List Int)).set
 (0 : Nat)
 (mval tythread
 g_3.2.2.2.1
 ((List.drop
 (Int.toNat
 (0 : Int))
 (List.take
 (min x.1
 (↑(sortT
 g_2.2.2.2.1
 g_2.2.1).length :
 Int)).toNat
 (sortT
 g_2.2.2.2.1
 g_2.2.1))).getD
 g_3.2.2.1.toNat
 (-1 : Int))).2.1 =
 g_3.2.1 ++
 ((0 : Int) :: ([] : List Int)).set
 (0 : Nat)
 (mval tythread
 g_3.2.2.2.1
 ((List.drop
 (Int.toNat
 (0 : Int))
 (List.take
 (min x.1
 (↑(sortT
 g_2.2.2.2.1
 g_2.2.1).length :
 Int)).toNat
 (sortT
 g_2.2.2.2.1
 g_2.2.1))).getD
 g_3.2.2.1.toNat
 (-1 : Int))).2.1 ∧
 True) ∧
 True) ∧
 ∀
 (g_5 :
 List (Int × (Int × Int × Int) × Int × Int × Int) × Unit),
 g_5.1 =
 incU g_4.1
 ((List.drop (Int.toNat (0 : Int))
 (List.take
 (min x.1
 (↑(sortT g_2.2.2.2.1
 g_2.2.1).length :
 Int)).toNat
 (sortT g_2.2.2.2.1 g_2.2.1))).getD
 g_3.2.2.1.toNat (-1 : Int)) →
 ((List.map (fun x ↦ x.1) g_5.1).Nodup ∧
 ∀ (e : Int × (Int × Int × Int) × Int × Int × Int),
 e ∈ g_5.1 →
 (0 : Int) ≤ e.1 ∧
 (((-9223372036854775808 : Int) ≤
 e.2.1.1 ∧
 e.2.1.1 ≤
 (9223372036854775807 : Int)) ∧
 ((-9223372036854775808 : Int) ≤
 e.2.1.2.1 ∧
 e.2.1.2.1 ≤
 (9223372036854775807 : Int)) ∧
 (-9223372036854775808 : Int) ≤
 e.2.1.2.2 ∧
 e.2.1.2.2 ≤
 (9223372036854775807 : Int)) ∧
 ((-9223372036854775808 : Int) ≤
 e.2.2.1 ∧
 e.2.2.1 ≤
 (9223372036854775807 : Int)) ∧
 ((-9223372036854775808 : Int) ≤
 e.2.2.2.1 ∧
 e.2.2.2.1 ≤
 (9223372036854775807 : Int)) ∧
 (-9223372036854775808 : Int) ≤
 e.2.2.2.2 ∧
 e.2.2.2.2 ≤
 (9223372036854775807 : Int)) ∧
 True →
 (0 : Int) ≤
 (List.drop (Int.toNat (0 : Int))
 (List.take
 (min x.1
 (↑(sortT g_2.2.2.2.1
 g_2.2.1).length :
 Int)).toNat
 (sortT g_2.2.2.2.1
 g_2.2.1))).getD
 g_3.2.2.1.toNat (-1 : Int) ∧
 mhas tythread g_5.1
 ((List.drop (Int.toNat (0 : Int))
 (List.take
 (min x.1
 (↑(sortT g_2.2.2.2.1
 g_2.2.1).length :
 Int)).toNat
 (sortT g_2.2.2.2.1
 g_2.2.1))).getD
 g_3.2.2.1.toNat (-1 : Int)) =
 true ∧
 (((mval tythread g_5.1
 ((List.drop (Int.toNat (0 : Int))
 (List.take
 (min x.1
 (↑(sortT
 g_2.2.2.2.1
 g_2.2.1).length :
 Int)).toNat
 (sortT g_2.2.2.2.1
 g_2.2.1))).getD
 g_3.2.2.1.toNat
 (-1 : Int))).2.2.2 ==
 x.2.1) =
 true →
 ((-9223372036854775808 : Int) ≤
 g_3.1 + (1 : Int) ∧
 g_3.1 + (1 : Int) ≤
 (9223372036854775807 : Int)) ∧
 (0 : Int) ≤
 (List.drop (Int.toNat (0 : Int))
 (List.take
 (min x.1
 (↑(sortT g_2.2.2.2.1
 g_2.2.1).length :
 Int)).toNat
 (sortT g_2.2.2.2.1
 g_2.2.1))).getD
 g_3.2.2.1.toNat (-1 : Int) ∧
 mhas tythread g_5.1
 ((List.drop (Int.toNat (0 : Int))
 (List.take
 (min x.1
 (↑(sortT
 g_2.2.2.2.1
 g_2.2.1).length :
 Int)).toNat
 (sortT g_2.2.2.2.1
 g_2.2.1))).getD
 g_3.2.2.1.toNat (-1 : Int)) =
 true ∧
 (0 : Int) ≤
 (List.drop (Int.toNat (0 : Int))
 (List.take
 (min x.1
 (↑(sortT
 g_2.2.2.2.1
 g_2.2.1).length :
 Int)).toNat
 (sortT g_2.2.2.2.1
 g_2.2.1))).getD
 g_3.2.2.1.toNat (-1 : Int) ∧
 mhas tythread
 (mput tythread g_5.1
 ((List.drop
 (Int.toNat (0 : Int))
 (List.take
 (min x.1
 (↑(sortT
 g_2.2.2.2.1
 g_2.2.1).length :
 Int)).toNat
 (sortT
 g_2.2.2.2.1
 g_2.2.1))).getD
 g_3.2.2.1.toNat
 (-1 : Int))
 (((mval tythread g_5.1
 ((List.drop
 (Int.toNat
 (0 : Int))
 (List.take
 (min x.1
 (↑(sortT
 g_2.2.2.2.1
 g_2.2.1).length :
 Int)).toNat
 (sortT
 g_2.2.2.2.1
 g_2.2.1))).getD
 g_3.2.2.1.toNat
 (-1 :
 Int))).1.1,
 (mval tythread g_5.1
 ((List.drop
 (Int.toNat
 (0 : Int))
 (List.take
 (min x.1
 (↑(sortT
 g_2.2.2.2.1
 g_2.2.1).length :
 Int)).toNat
 (sortT
 g_2.2.2.2.1
 g_2.2.1))).getD
 g_3.2.2.1.toNat
 (-1 :
 Int))).1.2.1,
 (mval tythread g_5.1
 ((List.drop
 (Int.toNat
 (0 : Int))
 (List.take
 (min x.1
 (↑(sortT
 g_2.2.2.2.1
 g_2.2.1).length :
 Int)).toNat
 (sortT
 g_2.2.2.2.1
 g_2.2.1))).getD
 g_3.2.2.1.toNat
 (-1 :
 Int))).1.2.2),
 (mval tythread g_5.1
 ((List.drop
 (Int.toNat
 (0 : Int))
 (List.take
 (min x.1
 (↑(sortT
 g_2.2.2.2.1
 g_2.2.1).length :
 Int)).toNat
 (sortT
 g_2.2.2.2.1
 g_2.2.1))).getD
 g_3.2.2.1.toNat
 (-1 : Int))).2.1,
 (mval tythread g_5.1
 ((List.drop
 (Int.toNat
 (0 : Int))
 (List.take
 (min x.1
 (↑(sortT
 g_2.2.2.2.1
 g_2.2.1).length :
 Int)).toNat
 (sortT
 g_2.2.2.2.1
 g_2.2.1))).getD
 g_3.2.2.1.toNat
 (-1 :
 Int))).2.2.1,
 (0 : Int)))
 ((List.drop (Int.toNat (0 : Int))
 (List.take
 (min x.1
 (↑(sortT
 g_2.2.2.2.1
 g_2.2.1).length :
 Int)).toNat
 (sortT g_2.2.2.2.1
 g_2.2.1))).getD
 g_3.2.2.1.toNat
 (-1 : Int)) =
 true ∧
 ((-9223372036854775808 : Int) ≤
 g_3.2.2.1 + (1 : Int) ∧
 g_3.2.2.1 + (1 : Int) ≤
 (9223372036854775807 : Int)) ∧
 (((0 : Int) ≤
 g_3.2.2.1 +
 (1 : Int) ∧
 g_3.2.2.1 + (1 : Int) ≤
 (↑(List.drop
 (Int.toNat
 (0 : Int))
 (List.take
 (min x.1
 (↑(sortT
 g_2.2.2.2.1
 g_2.2.1).length :
 Int)).toNat
 (sortT
 g_2.2.2.2.1
 g_2.2.1))).length :
 Int) ∧
 ((0 : Int) ≤
 g_3.1 + (1 : Int) ∧
 g_3.1 + (1 : Int) ≤
 (100 : Int) *
 g_1.2.2.1 +
 (64 : Int) +
 (g_3.2.2.1 +
 (1 : Int))) ∧
 ∃ q,
 q =
 (nst x.1 x.2.1
 x.2.2.1
 g_1.2.2.1.toNat).1 ∧
 g_3.2.1 ++
 ((0 : Int) ::
 ([] :
 List
 Int)).set
 (0 : Nat)
 (mval tythread
 g_3.2.2.2.1
 ((List.drop
 (Int.toNat
 (0 :
 Int))
 (List.take
 (min
 x.1
 (↑(sortT
 g_2.2.2.2.1
 g_2.2.1).length :
 Int)).toNat
 (sortT
 g_2.2.2.2.1
 g_2.2.1))).getD
 g_3.2.2.1.toNat
 (-1 :
 Int))).2.1 =
 List.take
 (g_3.2.2.1 +
 (1 :
 Int)).toNat
 (runs x.1
 x.2.2.1
 g_1.2.2.1
 q) ∧
 RT x.2.2.1
 x.2.1
 (g_3.1 +
 (1 : Int))
 g.1
 (mput tythread
 (mput tythread
 g_5.1
 ((List.drop
 (Int.toNat
 (0 :
 Int))
 (List.take
 (min
 x.1
 (↑(sortT
 g_2.2.2.2.1
 g_2.2.1).length :
 Int)).toNat
 (sortT
 g_2.2.2.2.1
 g_2.2.1))).getD
 g_3.2.2.1.toNat
 (-1 : Int))
 (((mval
 tythread
 g_5.1
 ((List.drop
 (Int.toNat
 (0 :
 Int))
 (List.take
 (min
 x.1
 (↑(sortT
 g_2.2.2.2.1
 g_2.2.1).length :
 Int)).toNat
 (sortT
 g_2.2.2.2.1
 g_2.2.1))).getD
 g_3.2.2.1.toNat
 (-1 :
 Int))).1.1,
 (mval
 tythread
 g_5.1
 ((List.drop
 (Int.toNat
 (0 :
 Int))
 (List.take
 (min
 x.1
 (↑(sortT
 g_2.2.2.2.1
 g_2.2.1).length :
 Int)).toNat
 (sortT
 g_2.2.2.2.1
 g_2.2.1))).getD
 g_3.2.2.1.toNat
 (-1 :
 Int))).1.2.1,
 (mval
 tythread
 g_5.1
 ((List.drop
 (Int.toNat
 (0 :
 Int))
 (List.take
 (min
 x.1
 (↑(sortT
 g_2.2.2.2.1
 g_2.2.1).length :
 Int)).toNat
 (sortT
 g_2.2.2.2.1
 g_2.2.1))).getD
 g_3.2.2.1.toNat
 (-1 :
 Int))).1.2.2),
 (mval
 tythread
 g_5.1
 ((List.drop
 (Int.toNat
 (0 :
 Int))
 (List.take
 (min
 x.1
 (↑(sortT
 g_2.2.2.2.1
 g_2.2.1).length :
 Int)).toNat
 (sortT
 g_2.2.2.2.1
 g_2.2.1))).getD
 g_3.2.2.1.toNat
 (-1 :
 Int))).2.1,
 (mval
 tythread
 g_5.1
 ((List.drop
 (Int.toNat
 (0 :
 Int))
 (List.take
 (min
 x.1
 (↑(sortT
 g_2.2.2.2.1
 g_2.2.1).length :
 Int)).toNat
 (sortT
 g_2.2.2.2.1
 g_2.2.1))).getD
 g_3.2.2.1.toNat
 (-1 :
 Int))).2.2.1,
 (0 : Int)))
 ((List.drop
 (Int.toNat
 (0 :
 Int))
 (List.take
 (min
 x.1
 (↑(sortT
 g_2.2.2.2.1
 g_2.2.1).length :
 Int)).toNat
 (sortT
 g_2.2.2.2.1
 g_2.2.1))).getD
 g_3.2.2.1.toNat
 (-1 : Int))
 (((mval tythread
 (mput
 tythread
 g_5.1
 ((List.drop
 (Int.toNat
 (0 :
 Int))
 (List.take
 (min
 x.1
 (↑(sortT
 g_2.2.2.2.1
 g_2.2.1).length :
 Int)).toNat
 (sortT
 g_2.2.2.2.1
 g_2.2.1))).getD
 g_3.2.2.1.toNat
 (-1 :
 Int))
 (((mval
 tythread
 g_5.1
 ((List.drop
 (Int.toNat
 (0 :
 Int))
 (List.take
 (min
 x.1
 (↑(sortT
 g_2.2.2.2.1
 g_2.2.1).length :
 Int)).toNat
 (sortT
 g_2.2.2.2.1
 g_2.2.1))).getD
 g_3.2.2.1.toNat
 (-1 :
 Int))).1.1,
 (mval
 tythread
 g_5.1
 ((List.drop
 (Int.toNat
 (0 :
 Int))
 (List.take
 (min
 x.1
 (↑(sortT
 g_2.2.2.2.1
 g_2.2.1).length :
 Int)).toNat
 (sortT
 g_2.2.2.2.1
 g_2.2.1))).getD
 g_3.2.2.1.toNat
 (-1 :
 Int))).1.2.1,
 (mval
 tythread
 g_5.1
 ((List.drop
 (Int.toNat
 (0 :
 Int))
 (List.take
 (min
 x.1
 (↑(sortT
 g_2.2.2.2.1
 g_2.2.1).length :
 Int)).toNat
 (sortT
 g_2.2.2.2.1
 g_2.2.1))).getD
 g_3.2.2.1.toNat
 (-1 :
 Int))).1.2.2),
 (mval
 tythread
 g_5.1
 ((List.drop
 (Int.toNat
 (0 :
 Int))
 (List.take
 (min
 x.1
 (↑(sortT
 g_2.2.2.2.1
 g_2.2.1).length :
 Int)).toNat
 (sortT
 g_2.2.2.2.1
 g_2.2.1))).getD
 g_3.2.2.1.toNat
 (-1 :
 Int))).2.1,
 (mval
 tythread
 g_5.1
 ((List.drop
 (Int.toNat
 (0 :
 Int))
 (List.take
 (min
 x.1
 (↑(sortT
 g_2.2.2.2.1
 g_2.2.1).length :
 Int)).toNat
 (sortT
 g_2.2.2.2.1
 g_2.2.1))).getD
 g_3.2.2.1.toNat
 (-1 :
 Int))).2.2.1,
 (0 :
 Int)))
 ((List.drop
 (Int.toNat
 (0 :
 Int))
 (List.take
 (min
 x.1
 (↑(sortT
 g_2.2.2.2.1
 g_2.2.1).length :
 Int)).toNat
 (sortT
 g_2.2.2.2.1
 g_2.2.1))).getD
 g_3.2.2.1.toNat
 (-1 :
 Int))).1.1,
 (mval
 tythread
 (mput
 tythread
 g_5.1
 ((List.drop
 (Int.toNat
 (0 :
 Int))
 (List.take
 (min
 x.1
 (↑(sortT
 g_2.2.2.2.1
 g_2.2.1).length :
 Int)).toNat
 (sortT
 g_2.2.2.2.1
 g_2.2.1))).getD
 g_3.2.2.1.toNat
 (-1 :
 Int))
 (((mval
 tythread
 g_5.1
 ((List.drop
 (Int.toNat
 (0 :
 Int))
 (List.take
 (min
 x.1
 (↑(sortT
 g_2.2.2.2.1
 g_2.2.1).length :
 Int)).toNat
 (sortT
 g_2.2.2.2.1
 g_2.2.1))).getD
 g_3.2.2.1.toNat
 (-1 :
 Int))).1.1,
 (mval
 tythread
 g_5.1
 ((List.drop
 (Int.toNat
 (0 :
 Int))
 (List.take
 (min
 x.1
 (↑(sortT
 g_2.2.2.2.1
 g_2.2.1).length :
 Int)).toNat
 (sortT
 g_2.2.2.2.1
 g_2.2.1))).getD
 g_3.2.2.1.toNat
 (-1 :
 Int))).1.2.1,
 (mval
 tythread
 g_5.1
 ((List.drop
 (Int.toNat
 (0 :
 Int))
 (List.take
 (min
 x.1
 (↑(sortT
 g_2.2.2.2.1
 g_2.2.1).length :
 Int)).toNat
 (sortT
 g_2.2.2.2.1
 g_2.2.1))).getD
 g_3.2.2.1.toNat
 (-1 :
 Int))).1.2.2),
 (mval
 tythread
 g_5.1
 ((List.drop
 (Int.toNat
 (0 :
 Int))
 (List.take
 (min
 x.1
 (↑(sortT
 g_2.2.2.2.1
 g_2.2.1).length :
 Int)).toNat
 (sortT
 g_2.2.2.2.1
 g_2.2.1))).getD
 g_3.2.2.1.toNat
 (-1 :
 Int))).2.1,
 (mval
 tythread
 g_5.1
 ((List.drop
 (Int.toNat
 (0 :
 Int))
 (List.take
 (min
 x.1
 (↑(sortT
 g_2.2.2.2.1
 g_2.2.1).length :
 Int)).toNat
 (sortT
 g_2.2.2.2.1
 g_2.2.1))).getD
 g_3.2.2.1.toNat
 (-1 :
 Int))).2.2.1,
 (0 :
 Int)))
 ((List.drop
 (Int.toNat
 (0 :
 Int))
 (List.take
 (min
 x.1
 (↑(sortT
 g_2.2.2.2.1
 g_2.2.1).length :
 Int)).toNat
 (sortT
 g_2.2.2.2.1
 g_2.2.1))).getD
 g_3.2.2.1.toNat
 (-1 :
 Int))).1.2.1,
 (mval
 tythread
 (mput
 tythread
 g_5.1
 ((List.drop
 (Int.toNat
 (0 :
 Int))
 (List.take
 (min
 x.1
 (↑(sortT
 g_2.2.2.2.1
 g_2.2.1).length :
 Int)).toNat
 (sortT
 g_2.2.2.2.1
 g_2.2.1))).getD
 g_3.2.2.1.toNat
 (-1 :
 Int))
 (((mval
 tythread
 g_5.1
 ((List.drop
 (Int.toNat
 (0 :
 Int))
 (List.take
 (min
 x.1
 (↑(sortT
 g_2.2.2.2.1
 g_2.2.1).length :
 Int)).toNat
 (sortT
 g_2.2.2.2.1
 g_2.2.1))).getD
 g_3.2.2.1.toNat
 (-1 :
 Int))).1.1,
 (mval
 tythread
 g_5.1
 ((List.drop
 (Int.toNat
 (0 :
 Int))
 (List.take
 (min
 x.1
 (↑(sortT
 g_2.2.2.2.1
 g_2.2.1).length :
 Int)).toNat
 (sortT
 g_2.2.2.2.1
 g_2.2.1))).getD
 g_3.2.2.1.toNat
 (-1 :
 Int))).1.2.1,
 (mval
 tythread
 g_5.1
 ((List.drop
 (Int.toNat
 (0 :
 Int))
 (List.take
 (min
 x.1
 (↑(sortT
 g_2.2.2.2.1
 g_2.2.1).length :
 Int)).toNat
 (sortT
 g_2.2.2.2.1
 g_2.2.1))).getD
 g_3.2.2.1.toNat
 (-1 :
 Int))).1.2.2),
 (mval
 tythread
 g_5.1
 ((List.drop
 (Int.toNat
 (0 :
 Int))
 (List.take
 (min
 x.1
 (↑(sortT
 g_2.2.2.2.1
 g_2.2.1).length :
 Int)).toNat
 (sortT
 g_2.2.2.2.1
 g_2.2.1))).getD
 g_3.2.2.1.toNat
 (-1 :
 Int))).2.1,
 (mval
 tythread
 g_5.1
 ((List.drop
 (Int.toNat
 (0 :
 Int))
 (List.take
 (min
 x.1
 (↑(sortT
 g_2.2.2.2.1
 g_2.2.1).length :
 Int)).toNat
 (sortT
 g_2.2.2.2.1
 g_2.2.1))).getD
 g_3.2.2.1.toNat
 (-1 :
 Int))).2.2.1,
 (0 :
 Int)))
 ((List.drop
 (Int.toNat
 (0 :
 Int))
 (List.take
 (min
 x.1
 (↑(sortT
 g_2.2.2.2.1
 g_2.2.1).length :
 Int)).toNat
 (sortT
 g_2.2.2.2.1
 g_2.2.1))).getD
 g_3.2.2.1.toNat
 (-1 :
 Int))).1.2.2),
 (mval tythread
 (mput
 tythread
 g_5.1
 ((List.drop
 (Int.toNat
 (0 :
 Int))
 (List.take
 (min
 x.1
 (↑(sortT
 g_2.2.2.2.1
 g_2.2.1).length :
 Int)).toNat
 (sortT
 g_2.2.2.2.1
 g_2.2.1))).getD
 g_3.2.2.1.toNat
 (-1 :
 Int))
 (((mval
 tythread
 g_5.1
 ((List.drop
 (Int.toNat
 (0 :
 Int))
 (List.take
 (min
 x.1
 (↑(sortT
 g_2.2.2.2.1
 g_2.2.1).length :
 Int)).toNat
 (sortT
 g_2.2.2.2.1
 g_2.2.1))).getD
 g_3.2.2.1.toNat
 (-1 :
 Int))).1.1,
 (mval
 tythread
 g_5.1
 ((List.drop
 (Int.toNat
 (0 :
 Int))
 (List.take
 (min
 x.1
 (↑(sortT
 g_2.2.2.2.1
 g_2.2.1).length :
 Int)).toNat
 (sortT
 g_2.2.2.2.1
 g_2.2.1))).getD
 g_3.2.2.1.toNat
 (-1 :
 Int))).1.2.1,
 (mval
 tythread
 g_5.1
 ((List.drop
 (Int.toNat
 (0 :
 Int))
 (List.take
 (min
 x.1
 (↑(sortT
 g_2.2.2.2.1
 g_2.2.1).length :
 Int)).toNat
 (sortT
 g_2.2.2.2.1
 g_2.2.1))).getD
 g_3.2.2.1.toNat
 (-1 :
 Int))).1.2.2),
 (mval
 tythread
 g_5.1
 ((List.drop
 (Int.toNat
 (0 :
 Int))
 (List.take
 (min
 x.1
 (↑(sortT
 g_2.2.2.2.1
 g_2.2.1).length :
 Int)).toNat
 (sortT
 g_2.2.2.2.1
 g_2.2.1))).getD
 g_3.2.2.1.toNat
 (-1 :
 Int))).2.1,
 (mval
 tythread
 g_5.1
 ((List.drop
 (Int.toNat
 (0 :
 Int))
 (List.take
 (min
 x.1
 (↑(sortT
 g_2.2.2.2.1
 g_2.2.1).length :
 Int)).toNat
 (sortT
 g_2.2.2.2.1
 g_2.2.1))).getD
 g_3.2.2.1.toNat
 (-1 :
 Int))).2.2.1,
 (0 :
 Int)))
 ((List.drop
 (Int.toNat
 (0 :
 Int))
 (List.take
 (min
 x.1
 (↑(sortT
 g_2.2.2.2.1
 g_2.2.1).length :
 Int)).toNat
 (sortT
 g_2.2.2.2.1
 g_2.2.1))).getD
 g_3.2.2.1.toNat
 (-1 :
 Int))).2.1,
 g_3.1 +
 (1 : Int),
 (mval tythread
 (mput
 tythread
 g_5.1
 ((List.drop
 (Int.toNat
 (0 :
 Int))
 (List.take
 (min
 x.1
 (↑(sortT
 g_2.2.2.2.1
 g_2.2.1).length :
 Int)).toNat
 (sortT
 g_2.2.2.2.1
 g_2.2.1))).getD
 g_3.2.2.1.toNat
 (-1 :
 Int))
 (((mval
 tythread
 g_5.1
 ((List.drop
 (Int.toNat
 (0 :
 Int))
 (List.take
 (min
 x.1
 (↑(sortT
 g_2.2.2.2.1
 g_2.2.1).length :
 Int)).toNat
 (sortT
 g_2.2.2.2.1
 g_2.2.1))).getD
 g_3.2.2.1.toNat
 (-1 :
 Int))).1.1,
 (mval
 tythread
 g_5.1
 ((List.drop
 (Int.toNat
 (0 :
 Int))
 (List.take
 (min
 x.1
 (↑(sortT
 g_2.2.2.2.1
 g_2.2.1).length :
 Int)).toNat
 (sortT
 g_2.2.2.2.1
 g_2.2.1))).getD
 g_3.2.2.1.toNat
 (-1 :
 Int))).1.2.1,
 (mval
 tythread
 g_5.1
 ((List.drop
 (Int.toNat
 (0 :
 Int))
 (List.take
 (min
 x.1
 (↑(sortT
 g_2.2.2.2.1
 g_2.2.1).length :
 Int)).toNat
 (sortT
 g_2.2.2.2.1
 g_2.2.1))).getD
 g_3.2.2.1.toNat
 (-1 :
 Int))).1.2.2),
 (mval
 tythread
 g_5.1
 ((List.drop
 (Int.toNat
 (0 :
 Int))
 (List.take
 (min
 x.1
 (↑(sortT
 g_2.2.2.2.1
 g_2.2.1).length :
 Int)).toNat
 (sortT
 g_2.2.2.2.1
 g_2.2.1))).getD
 g_3.2.2.1.toNat
 (-1 :
 Int))).2.1,
 (mval
 tythread
 g_5.1
 ((List.drop
 (Int.toNat
 (0 :
 Int))
 (List.take
 (min
 x.1
 (↑(sortT
 g_2.2.2.2.1
 g_2.2.1).length :
 Int)).toNat
 (sortT
 g_2.2.2.2.1
 g_2.2.1))).getD
 g_3.2.2.1.toNat
 (-1 :
 Int))).2.2.1,
 (0 :
 Int)))
 ((List.drop
 (Int.toNat
 (0 :
 Int))
 (List.take
 (min
 x.1
 (↑(sortT
 g_2.2.2.2.1
 g_2.2.1).length :
 Int)).toNat
 (sortT
 g_2.2.2.2.1
 g_2.2.1))).getD
 g_3.2.2.1.toNat
 (-1 :
 Int))).2.2.2))
 (List.foldl
 (stA x.2.1)
 (mid
 x.2.2.1
 g_1.2.2.1
 q)
 (List.take
 (g_3.2.2.1 +
 (1 :
 Int)).toNat
 (runs x.1
 x.2.2.1
 g_1.2.2.1
 q)))) ∧
 ((↑(List.drop
 (Int.toNat
 (0 : Int))
 (List.take
 (min x.1
 (↑(sortT
 g_2.2.2.2.1
 g_2.2.1).length :
 Int)).toNat
 (sortT
 g_2.2.2.2.1
 g_2.2.1))).length :
 Int) -
 (g_3.2.2.1 +
 (1 : Int))).toNat <
 ((↑(List.drop
 (Int.toNat
 (0 : Int))
 (List.take
 (min x.1
 (↑(sortT
 g_2.2.2.2.1
 g_2.2.1).length :
 Int)).toNat
 (sortT
 g_2.2.2.2.1
 g_2.2.1))).length :
 Int) -
 g_3.2.2.1).toNat) ∧
 (x.1 = x.1 ∧
 x.2.1 = x.2.1 ∧
 True ∧
 g_3.1 + (1 : Int) =
 g_3.1 + (1 : Int) ∧
 True ∧
 True ∧
 x.2.2.2.1 =
 x.2.2.2.1 ∧
 g_1.2.2.1 =
 g_1.2.2.1 ∧
 List.drop
 (Int.toNat
 (0 :
 Int))
 (List.take
 (min
 x.1
 (↑(sortT
 g_2.2.2.2.1
 g_2.2.1).length :
 Int)).toNat
 (sortT
 g_2.2.2.2.1
 g_2.2.1)) =
 List.drop
 (Int.toNat
 (0 :
 Int))
 (List.take
 (min
 x.1
 (↑(sortT
 g_2.2.2.2.1
 g_2.2.1).length :
 Int)).toNat
 (sortT
 g_2.2.2.2.1
 g_2.2.1)) ∧
 (↑(List.drop
 (Int.toNat
 (0 :
 Int))
 (List.take
 (min
 x.1
 (↑(sortT
 g_2.2.2.2.1
 g_2.2.1).length :
 Int)).toNat
 (sortT
 g_2.2.2.2.1
 g_2.2.1))).length :
 Int) =
 (↑(List.drop
 (Int.toNat
 (0 :
 Int))
 (List.take
 (min
 x.1
 (↑(sortT
 g_2.2.2.2.1
 g_2.2.1).length :
 Int)).toNat
 (sortT
 g_2.2.2.2.1
 g_2.2.1))).length :
 Int) ∧
 g_3.2.2.1 +
 (1 :
 Int) =
 g_3.2.2.1 +
 (1 :
 Int) ∧
 True) ∧
 (g_3.2.1 ++
 ((0 : Int) ::
 ([] :
 List Int)).set
 (0 : Nat)
 (mval tythread
 g_3.2.2.2.1
 ((List.drop
 (Int.toNat
 (0 :
 Int))
 (List.take
 (min
 x.1
 (↑(sortT
 g_2.2.2.2.1
 g_2.2.1).length :
 Int)).toNat
 (sortT
 g_2.2.2.2.1
 g_2.2.1))).getD
 g_3.2.2.1.toNat
 (-1 :
 Int))).2.1 =
 g_3.2.1 ++
 ((0 : Int) ::
 ([] :
 List Int)).set
 (0 : Nat)
 (mval tythread
 g_3.2.2.2.1
 ((List.drop
 (Int.toNat
 (0 :
 Int))
 (List.take
 (min
 x.1
 (↑(sortT
 g_2.2.2.2.1
 g_2.2.1).length :
 Int)).toNat
 (sortT
 g_2.2.2.2.1
 g_2.2.1))).getD
 g_3.2.2.1.toNat
 (-1 :
 Int))).2.1 ∧
 mput tythread
 (mput tythread g_5.1
 ((List.drop
 (Int.toNat
 (0 : Int))
 (List.take
 (min x.1
 (↑(sortT
 g_2.2.2.2.1
 g_2.2.1).length :
 Int)).toNat
 (sortT
 g_2.2.2.2.1
 g_2.2.1))).getD
 g_3.2.2.1.toNat
 (-1 : Int))
 (((mval tythread
 g_5.1
 ((List.drop
 (Int.toNat
 (0 :
 Int))
 (List.take
 (min
 x.1
 (↑(sortT
 g_2.2.2.2.1
 g_2.2.1).length :
 Int)).toNat
 (sortT
 g_2.2.2.2.1
 g_2.2.1))).getD
 g_3.2.2.1.toNat
 (-1 :
 Int))).1.1,
 (mval tythread
 g_5.1
 ((List.drop
 (Int.toNat
 (0 :
 Int))
 (List.take
 (min
 x.1
 (↑(sortT
 g_2.2.2.2.1
 g_2.2.1).length :
 Int)).toNat
 (sortT
 g_2.2.2.2.1
 g_2.2.1))).getD
 g_3.2.2.1.toNat
 (-1 :
 Int))).1.2.1,
 (mval tythread
 g_5.1
 ((List.drop
 (Int.toNat
 (0 :
 Int))
 (List.take
 (min
 x.1
 (↑(sortT
 g_2.2.2.2.1
 g_2.2.1).length :
 Int)).toNat
 (sortT
 g_2.2.2.2.1
 g_2.2.1))).getD
 g_3.2.2.1.toNat
 (-1 :
 Int))).1.2.2),
 (mval tythread
 g_5.1
 ((List.drop
 (Int.toNat
 (0 :
 Int))
 (List.take
 (min
 x.1
 (↑(sortT
 g_2.2.2.2.1
 g_2.2.1).length :
 Int)).toNat
 (sortT
 g_2.2.2.2.1
 g_2.2.1))).getD
 g_3.2.2.1.toNat
 (-1 :
 Int))).2.1,
 (mval tythread
 g_5.1
 ((List.drop
 (Int.toNat
 (0 :
 Int))
 (List.take
 (min
 x.1
 (↑(sortT
 g_2.2.2.2.1
 g_2.2.1).length :
 Int)).toNat
 (sortT
 g_2.2.2.2.1
 g_2.2.1))).getD
 g_3.2.2.1.toNat
 (-1 :
 Int))).2.2.1,
 (0 : Int)))
 ((List.drop
 (Int.toNat
 (0 : Int))
 (List.take
 (min x.1
 (↑(sortT
 g_2.2.2.2.1
 g_2.2.1).length :
 Int)).toNat
 (sortT
 g_2.2.2.2.1
 g_2.2.1))).getD
 g_3.2.2.1.toNat
 (-1 : Int))
 (((mval tythread
 (mput
 tythread
 g_5.1
 ((List.drop
 (Int.toNat
 (0 :
 Int))
 (List.take
 (min
 x.1
 (↑(sortT
 g_2.2.2.2.1
 g_2.2.1).length :
 Int)).toNat
 (sortT
 g_2.2.2.2.1
 g_2.2.1))).getD
 g_3.2.2.1.toNat
 (-1 :
 Int))
 (((mval
 tythread
 g_5.1
 ((List.drop
 (Int.toNat
 (0 :
 Int))
 (List.take
 (min
 x.1
 (↑(sortT
 g_2.2.2.2.1
 g_2.2.1).length :
 Int)).toNat
 (sortT
 g_2.2.2.2.1
 g_2.2.1))).getD
 g_3.2.2.1.toNat
 (-1 :
 Int))).1.1,
 (mval
 tythread
 g_5.1
 ((List.drop
 (Int.toNat
 (0 :
 Int))
 (List.take
 (min
 x.1
 (↑(sortT
 g_2.2.2.2.1
 g_2.2.1).length :
 Int)).toNat
 (sortT
 g_2.2.2.2.1
 g_2.2.1))).getD
 g_3.2.2.1.toNat
 (-1 :
 Int))).1.2.1,
 (mval
 tythread
 g_5.1
 ((List.drop
 (Int.toNat
 (0 :
 Int))
 (List.take
 (min
 x.1
 (↑(sortT
 g_2.2.2.2.1
 g_2.2.1).length :
 Int)).toNat
 (sortT
 g_2.2.2.2.1
 g_2.2.1))).getD
 g_3.2.2.1.toNat
 (-1 :
 Int))).1.2.2),
 (mval
 tythread
 g_5.1
 ((List.drop
 (Int.toNat
 (0 :
 Int))
 (List.take
 (min
 x.1
 (↑(sortT
 g_2.2.2.2.1
 g_2.2.1).length :
 Int)).toNat
 (sortT
 g_2.2.2.2.1
 g_2.2.1))).getD
 g_3.2.2.1.toNat
 (-1 :
 Int))).2.1,
 (mval
 tythread
 g_5.1
 ((List.drop
 (Int.toNat
 (0 :
 Int))
 (List.take
 (min
 x.1
 (↑(sortT
 g_2.2.2.2.1
 g_2.2.1).length :
 Int)).toNat
 (sortT
 g_2.2.2.2.1
 g_2.2.1))).getD
 g_3.2.2.1.toNat
 (-1 :
 Int))).2.2.1,
 (0 :
 Int)))
 ((List.drop
 (Int.toNat
 (0 :
 Int))
 (List.take
 (min
 x.1
 (↑(sortT
 g_2.2.2.2.1
 g_2.2.1).length :
 Int)).toNat
 (sortT
 g_2.2.2.2.1
 g_2.2.1))).getD
 g_3.2.2.1.toNat
 (-1 :
 Int))).1.1,
 (mval tythread
 (mput
 tythread
 g_5.1
 ((List.drop
 (Int.toNat
 (0 :
 Int))
 (List.take
 (min
 x.1
 (↑(sortT
 g_2.2.2.2.1
 g_2.2.1).length :
 Int)).toNat
 (sortT
 g_2.2.2.2.1
 g_2.2.1))).getD
 g_3.2.2.1.toNat
 (-1 :
 Int))
 (((mval
 tythread
 g_5.1
 ((List.drop
 (Int.toNat
 (0 :
 Int))
 (List.take
 (min
 x.1
 (↑(sortT
 g_2.2.2.2.1
 g_2.2.1).length :
 Int)).toNat
 (sortT
 g_2.2.2.2.1
 g_2.2.1))).getD
 g_3.2.2.1.toNat
 (-1 :
 Int))).1.1,
 (mval
 tythread
 g_5.1
 ((List.drop
 (Int.toNat
 (0 :
 Int))
 (List.take
 (min
 x.1
 (↑(sortT
 g_2.2.2.2.1
 g_2.2.1).length :
 Int)).toNat
 (sortT
 g_2.2.2.2.1
 g_2.2.1))).getD
 g_3.2.2.1.toNat
 (-1 :
 Int))).1.2.1,
 (mval
 tythread
 g_5.1
 ((List.drop
 (Int.toNat
 (0 :
 Int))
 (List.take
 (min
 x.1
 (↑(sortT
 g_2.2.2.2.1
 g_2.2.1).length :
 Int)).toNat
 (sortT
 g_2.2.2.2.1
 g_2.2.1))).getD
 g_3.2.2.1.toNat
 (-1 :
 Int))).1.2.2),
 (mval
 tythread
 g_5.1
 ((List.drop
 (Int.toNat
 (0 :
 Int))
 (List.take
 (min
 x.1
 (↑(sortT
 g_2.2.2.2.1
 g_2.2.1).length :
 Int)).toNat
 (sortT
 g_2.2.2.2.1
 g_2.2.1))).getD
 g_3.2.2.1.toNat
 (-1 :
 Int))).2.1,
 (mval
 tythread
 g_5.1
 ((List.drop
 (Int.toNat
 (0 :
 Int))
 (List.take
 (min
 x.1
 (↑(sortT
 g_2.2.2.2.1
 g_2.2.1).length :
 Int)).toNat
 (sortT
 g_2.2.2.2.1
 g_2.2.1))).getD
 g_3.2.2.1.toNat
 (-1 :
 Int))).2.2.1,
 (0 :
 Int)))
 ((List.drop
 (Int.toNat
 (0 :
 Int))
 (List.take
 (min
 x.1
 (↑(sortT
 g_2.2.2.2.1
 g_2.2.1).length :
 Int)).toNat
 (sortT
 g_2.2.2.2.1
 g_2.2.1))).getD
 g_3.2.2.1.toNat
 (-1 :
 Int))).1.2.1,
 (mval tythread
 (mput
 tythread
 g_5.1
 ((List.drop
 (Int.toNat
 (0 :
 Int))
 (List.take
 (min
 x.1
 (↑(sortT
 g_2.2.2.2.1
 g_2.2.1).length :
 Int)).toNat
 (sortT
 g_2.2.2.2.1
 g_2.2.1))).getD
 g_3.2.2.1.toNat
 (-1 :
 Int))
 (((mval
 tythread
 g_5.1
 ((List.drop
 (Int.toNat
 (0 :
 Int))
 (List.take
 (min
 x.1
 (↑(sortT
 g_2.2.2.2.1
 g_2.2.1).length :
 Int)).toNat
 (sortT
 g_2.2.2.2.1
 g_2.2.1))).getD
 g_3.2.2.1.toNat
 (-1 :
 Int))).1.1,
 (mval
 tythread
 g_5.1
 ((List.drop
 (Int.toNat
 (0 :
 Int))
 (List.take
 (min
 x.1
 (↑(sortT
 g_2.2.2.2.1
 g_2.2.1).length :
 Int)).toNat
 (sortT
 g_2.2.2.2.1
 g_2.2.1))).getD
 g_3.2.2.1.toNat
 (-1 :
 Int))).1.2.1,
 (mval
 tythread
 g_5.1
 ((List.drop
 (Int.toNat
 (0 :
 Int))
 (List.take
 (min
 x.1
 (↑(sortT
 g_2.2.2.2.1
 g_2.2.1).length :
 Int)).toNat
 (sortT
 g_2.2.2.2.1
 g_2.2.1))).getD
 g_3.2.2.1.toNat
 (-1 :
 Int))).1.2.2),
 (mval
 tythread
 g_5.1
 ((List.drop
 (Int.toNat
 (0 :
 Int))
 (List.take
 (min
 x.1
 (↑(sortT
 g_2.2.2.2.1
 g_2.2.1).length :
 Int)).toNat
 (sortT
 g_2.2.2.2.1
 g_2.2.1))).getD
 g_3.2.2.1.toNat
 (-1 :
 Int))).2.1,
 (mval
 tythread
 g_5.1
 ((List.drop
 (Int.toNat
 (0 :
 Int))
 (List.take
 (min
 x.1
 (↑(sortT
 g_2.2.2.2.1
 g_2.2.1).length :
 Int)).toNat
 (sortT
 g_2.2.2.2.1
 g_2.2.1))).getD
 g_3.2.2.1.toNat
 (-1 :
 Int))).2.2.1,
 (0 :
 Int)))
 ((List.drop
 (Int.toNat
 (0 :
 Int))
 (List.take
 (min
 x.1
 (↑(sortT
 g_2.2.2.2.1
 g_2.2.1).length :
 Int)).toNat
 (sortT
 g_2.2.2.2.1
 g_2.2.1))).getD
 g_3.2.2.1.toNat
 (-1 :
 Int))).1.2.2),
 (mval tythread
 (mput tythread
 g_5.1
 ((List.drop
 (Int.toNat
 (0 :
 Int))
 (List.take
 (min
 x.1
 (↑(sortT
 g_2.2.2.2.1
 g_2.2.1).length :
 Int)).toNat
 (sortT
 g_2.2.2.2.1
 g_2.2.1))).getD
 g_3.2.2.1.toNat
 (-1 :
 Int))
 (((mval
 tythread
 g_5.1
 ((List.drop
 (Int.toNat
 (0 :
 Int))
 (List.take
 (min
 x.1
 (↑(sortT
 g_2.2.2.2.1
 g_2.2.1).length :
 Int)).toNat
 (sortT
 g_2.2.2.2.1
 g_2.2.1))).getD
 g_3.2.2.1.toNat
 (-1 :
 Int))).1.1,
 (mval
 tythread
 g_5.1
 ((List.drop
 (Int.toNat
 (0 :
 Int))
 (List.take
 (min
 x.1
 (↑(sortT
 g_2.2.2.2.1
 g_2.2.1).length :
 Int)).toNat
 (sortT
 g_2.2.2.2.1
 g_2.2.1))).getD
 g_3.2.2.1.toNat
 (-1 :
 Int))).1.2.1,
 (mval
 tythread
 g_5.1
 ((List.drop
 (Int.toNat
 (0 :
 Int))
 (List.take
 (min
 x.1
 (↑(sortT
 g_2.2.2.2.1
 g_2.2.1).length :
 Int)).toNat
 (sortT
 g_2.2.2.2.1
 g_2.2.1))).getD
 g_3.2.2.1.toNat
 (-1 :
 Int))).1.2.2),
 (mval
 tythread
 g_5.1
 ((List.drop
 (Int.toNat
 (0 :
 Int))
 (List.take
 (min
 x.1
 (↑(sortT
 g_2.2.2.2.1
 g_2.2.1).length :
 Int)).toNat
 (sortT
 g_2.2.2.2.1
 g_2.2.1))).getD
 g_3.2.2.1.toNat
 (-1 :
 Int))).2.1,
 (mval
 tythread
 g_5.1
 ((List.drop
 (Int.toNat
 (0 :
 Int))
 (List.take
 (min
 x.1
 (↑(sortT
 g_2.2.2.2.1
 g_2.2.1).length :
 Int)).toNat
 (sortT
 g_2.2.2.2.1
 g_2.2.1))).getD
 g_3.2.2.1.toNat
 (-1 :
 Int))).2.2.1,
 (0 :
 Int)))
 ((List.drop
 (Int.toNat
 (0 :
 Int))
 (List.take
 (min
 x.1
 (↑(sortT
 g_2.2.2.2.1
 g_2.2.1).length :
 Int)).toNat
 (sortT
 g_2.2.2.2.1
 g_2.2.1))).getD
 g_3.2.2.1.toNat
 (-1 :
 Int))).2.1,
 g_3.1 + (1 : Int),
 (mval tythread
 (mput
 tythread
 g_5.1
 ((List.drop
 (Int.toNat
 (0 :
 Int))
 (List.take
 (min
 x.1
 (↑(sortT
 g_2.2.2.2.1
 g_2.2.1).length :
 Int)).toNat
 (sortT
 g_2.2.2.2.1
 g_2.2.1))).getD
 g_3.2.2.1.toNat
 (-1 :
 Int))
 (((mval
 tythread
 g_5.1
 ((List.drop
 (Int.toNat
 (0 :
 Int))
 (List.take
 (min
 x.1
 (↑(sortT
 g_2.2.2.2.1
 g_2.2.1).length :
 Int)).toNat
 (sortT
 g_2.2.2.2.1
 g_2.2.1))).getD
 g_3.2.2.1.toNat
 (-1 :
 Int))).1.1,
 (mval
 tythread
 g_5.1
 ((List.drop
 (Int.toNat
 (0 :
 Int))
 (List.take
 (min
 x.1
 (↑(sortT
 g_2.2.2.2.1
 g_2.2.1).length :
 Int)).toNat
 (sortT
 g_2.2.2.2.1
 g_2.2.1))).getD
 g_3.2.2.1.toNat
 (-1 :
 Int))).1.2.1,
 (mval
 tythread
 g_5.1
 ((List.drop
 (Int.toNat
 (0 :
 Int))
 (List.take
 (min
 x.1
 (↑(sortT
 g_2.2.2.2.1
 g_2.2.1).length :
 Int)).toNat
 (sortT
 g_2.2.2.2.1
 g_2.2.1))).getD
 g_3.2.2.1.toNat
 (-1 :
 Int))).1.2.2),
 (mval
 tythread
 g_5.1
 ((List.drop
 (Int.toNat
 (0 :
 Int))
 (List.take
 (min
 x.1
 (↑(sortT
 g_2.2.2.2.1
 g_2.2.1).length :
 Int)).toNat
 (sortT
 g_2.2.2.2.1
 g_2.2.1))).getD
 g_3.2.2.1.toNat
 (-1 :
 Int))).2.1,
 (mval
 tythread
 g_5.1
 ((List.drop
 (Int.toNat
 (0 :
 Int))
 (List.take
 (min
 x.1
 (↑(sortT
 g_2.2.2.2.1
 g_2.2.1).length :
 Int)).toNat
 (sortT
 g_2.2.2.2.1
 g_2.2.1))).getD
 g_3.2.2.1.toNat
 (-1 :
 Int))).2.2.1,
 (0 :
 Int)))
 ((List.drop
 (Int.toNat
 (0 :
 Int))
 (List.take
 (min
 x.1
 (↑(sortT
 g_2.2.2.2.1
 g_2.2.1).length :
 Int)).toNat
 (sortT
 g_2.2.2.2.1
 g_2.2.1))).getD
 g_3.2.2.1.toNat
 (-1 :
 Int))).2.2.2) =
 mput tythread
 (mput tythread g_5.1
 ((List.drop
 (Int.toNat
 (0 : Int))
 (List.take
 (min x.1
 (↑(sortT
 g_2.2.2.2.1
 g_2.2.1).length :
 Int)).toNat
 (sortT
 g_2.2.2.2.1
 g_2.2.1))).getD
 g_3.2.2.1.toNat
 (-1 : Int))
 (((mval tythread
 g_5.1
 ((List.drop
 (Int.toNat
 (0 :
 Int))
 (List.take
 (min
 x.1
 (↑(sortT
 g_2.2.2.2.1
 g_2.2.1).length :
 Int)).toNat
 (sortT
 g_2.2.2.2.1
 g_2.2.1))).getD
 g_3.2.2.1.toNat
 (-1 :
 Int))).1.1,
 (mval tythread
 g_5.1
 ((List.drop
 (Int.toNat
 (0 :
 Int))
 (List.take
 (min
 x.1
 (↑(sortT
 g_2.2.2.2.1
 g_2.2.1).length :
 Int)).toNat
 (sortT
 g_2.2.2.2.1
 g_2.2.1))).getD
 g_3.2.2.1.toNat
 (-1 :
 Int))).1.2.1,
 (mval tythread
 g_5.1
 ((List.drop
 (Int.toNat
 (0 :
 Int))
 (List.take
 (min
 x.1
 (↑(sortT
 g_2.2.2.2.1
 g_2.2.1).length :
 Int)).toNat
 (sortT
 g_2.2.2.2.1
 g_2.2.1))).getD
 g_3.2.2.1.toNat
 (-1 :
 Int))).1.2.2),
 (mval tythread
 g_5.1
 ((List.drop
 (Int.toNat
 (0 :
 Int))
 (List.take
 (min
 x.1
 (↑(sortT
 g_2.2.2.2.1
 g_2.2.1).length :
 Int)).toNat
 (sortT
 g_2.2.2.2.1
 g_2.2.1))).getD
 g_3.2.2.1.toNat
 (-1 :
 Int))).2.1,
 (mval tythread
 g_5.1
 ((List.drop
 (Int.toNat
 (0 :
 Int))
 (List.take
 (min
 x.1
 (↑(sortT
 g_2.2.2.2.1
 g_2.2.1).length :
 Int)).toNat
 (sortT
 g_2.2.2.2.1
 g_2.2.1))).getD
 g_3.2.2.1.toNat
 (-1 :
 Int))).2.2.1,
 (0 : Int)))
 ((List.drop
 (Int.toNat
 (0 : Int))
 (List.take
 (min x.1
 (↑(sortT
 g_2.2.2.2.1
 g_2.2.1).length :
 Int)).toNat
 (sortT
 g_2.2.2.2.1
 g_2.2.1))).getD
 g_3.2.2.1.toNat
 (-1 : Int))
 (((mval tythread
 (mput
 tythread
 g_5.1
 ((List.drop
 (Int.toNat
 (0 :
 Int))
 (List.take
 (min
 x.1
 (↑(sortT
 g_2.2.2.2.1
 g_2.2.1).length :
 Int)).toNat
 (sortT
 g_2.2.2.2.1
 g_2.2.1))).getD
 g_3.2.2.1.toNat
 (-1 :
 Int))
 (((mval
 tythread
 g_5.1
 ((List.drop
 (Int.toNat
 (0 :
 Int))
 (List.take
 (min
 x.1
 (↑(sortT
 g_2.2.2.2.1
 g_2.2.1).length :
 Int)).toNat
 (sortT
 g_2.2.2.2.1
 g_2.2.1))).getD
 g_3.2.2.1.toNat
 (-1 :
 Int))).1.1,
 (mval
 tythread
 g_5.1
 ((List.drop
 (Int.toNat
 (0 :
 Int))
 (List.take
 (min
 x.1
 (↑(sortT
 g_2.2.2.2.1
 g_2.2.1).length :
 Int)).toNat
 (sortT
 g_2.2.2.2.1
 g_2.2.1))).getD
 g_3.2.2.1.toNat
 (-1 :
 Int))).1.2.1,
 (mval
 tythread
 g_5.1
 ((List.drop
 (Int.toNat
 (0 :
 Int))
 (List.take
 (min
 x.1
 (↑(sortT
 g_2.2.2.2.1
 g_2.2.1).length :
 Int)).toNat
 (sortT
 g_2.2.2.2.1
 g_2.2.1))).getD
 g_3.2.2.1.toNat
 (-1 :
 Int))).1.2.2),
 (mval
 tythread
 g_5.1
 ((List.drop
 (Int.toNat
 (0 :
 Int))
 (List.take
 (min
 x.1
 (↑(sortT
 g_2.2.2.2.1
 g_2.2.1).length :
 Int)).toNat
 (sortT
 g_2.2.2.2.1
 g_2.2.1))).getD
 g_3.2.2.1.toNat
 (-1 :
 Int))).2.1,
 (mval
 tythread
 g_5.1
 ((List.drop
 (Int.toNat
 (0 :
 Int))
 (List.take
 (min
 x.1
 (↑(sortT
 g_2.2.2.2.1
 g_2.2.1).length :
 Int)).toNat
 (sortT
 g_2.2.2.2.1
 g_2.2.1))).getD
 g_3.2.2.1.toNat
 (-1 :
 Int))).2.2.1,
 (0 :
 Int)))
 ((List.drop
 (Int.toNat
 (0 :
 Int))
 (List.take
 (min
 x.1
 (↑(sortT
 g_2.2.2.2.1
 g_2.2.1).length :
 Int)).toNat
 (sortT
 g_2.2.2.2.1
 g_2.2.1))).getD
 g_3.2.2.1.toNat
 (-1 :
 Int))).1.1,
 (mval tythread
 (mput
 tythread
 g_5.1
 ((List.drop
 (Int.toNat
 (0 :
 Int))
 (List.take
 (min
 x.1
 (↑(sortT
 g_2.2.2.2.1
 g_2.2.1).length :
 Int)).toNat
 (sortT
 g_2.2.2.2.1
 g_2.2.1))).getD
 g_3.2.2.1.toNat
 (-1 :
 Int))
 (((mval
 tythread
 g_5.1
 ((List.drop
 (Int.toNat
 (0 :
 Int))
 (List.take
 (min
 x.1
 (↑(sortT
 g_2.2.2.2.1
 g_2.2.1).length :
 Int)).toNat
 (sortT
 g_2.2.2.2.1
 g_2.2.1))).getD
 g_3.2.2.1.toNat
 (-1 :
 Int))).1.1,
 (mval
 tythread
 g_5.1
 ((List.drop
 (Int.toNat
 (0 :
 Int))
 (List.take
 (min
 x.1
 (↑(sortT
 g_2.2.2.2.1
 g_2.2.1).length :
 Int)).toNat
 (sortT
 g_2.2.2.2.1
 g_2.2.1))).getD
 g_3.2.2.1.toNat
 (-1 :
 Int))).1.2.1,
 (mval
 tythread
 g_5.1
 ((List.drop
 (Int.toNat
 (0 :
 Int))
 (List.take
 (min
 x.1
 (↑(sortT
 g_2.2.2.2.1
 g_2.2.1).length :
 Int)).toNat
 (sortT
 g_2.2.2.2.1
 g_2.2.1))).getD
 g_3.2.2.1.toNat
 (-1 :
 Int))).1.2.2),
 (mval
 tythread
 g_5.1
 ((List.drop
 (Int.toNat
 (0 :
 Int))
 (List.take
 (min
 x.1
 (↑(sortT
 g_2.2.2.2.1
 g_2.2.1).length :
 Int)).toNat
 (sortT
 g_2.2.2.2.1
 g_2.2.1))).getD
 g_3.2.2.1.toNat
 (-1 :
 Int))).2.1,
 (mval
 tythread
 g_5.1
 ((List.drop
 (Int.toNat
 (0 :
 Int))
 (List.take
 (min
 x.1
 (↑(sortT
 g_2.2.2.2.1
 g_2.2.1).length :
 Int)).toNat
 (sortT
 g_2.2.2.2.1
 g_2.2.1))).getD
 g_3.2.2.1.toNat
 (-1 :
 Int))).2.2.1,
 (0 :
 Int)))
 ((List.drop
 (Int.toNat
 (0 :
 Int))
 (List.take
 (min
 x.1
 (↑(sortT
 g_2.2.2.2.1
 g_2.2.1).length :
 Int)).toNat
 (sortT
 g_2.2.2.2.1
 g_2.2.1))).getD
 g_3.2.2.1.toNat
 (-1 :
 Int))).1.2.1,
 (mval tythread
 (mput
 tythread
 g_5.1
 ((List.drop
 (Int.toNat
 (0 :
 Int))
 (List.take
 (min
 x.1
 (↑(sortT
 g_2.2.2.2.1
 g_2.2.1).length :
 Int)).toNat
 (sortT
 g_2.2.2.2.1
 g_2.2.1))).getD
 g_3.2.2.1.toNat
 (-1 :
 Int))
 (((mval
 tythread
 g_5.1
 ((List.drop
 (Int.toNat
 (0 :
 Int))
 (List.take
 (min
 x.1
 (↑(sortT
 g_2.2.2.2.1
 g_2.2.1).length :
 Int)).toNat
 (sortT
 g_2.2.2.2.1
 g_2.2.1))).getD
 g_3.2.2.1.toNat
 (-1 :
 Int))).1.1,
 (mval
 tythread
 g_5.1
 ((List.drop
 (Int.toNat
 (0 :
 Int))
 (List.take
 (min
 x.1
 (↑(sortT
 g_2.2.2.2.1
 g_2.2.1).length :
 Int)).toNat
 (sortT
 g_2.2.2.2.1
 g_2.2.1))).getD
 g_3.2.2.1.toNat
 (-1 :
 Int))).1.2.1,
 (mval
 tythread
 g_5.1
 ((List.drop
 (Int.toNat
 (0 :
 Int))
 (List.take
 (min
 x.1
 (↑(sortT
 g_2.2.2.2.1
 g_2.2.1).length :
 Int)).toNat
 (sortT
 g_2.2.2.2.1
 g_2.2.1))).getD
 g_3.2.2.1.toNat
 (-1 :
 Int))).1.2.2),
 (mval
 tythread
 g_5.1
 ((List.drop
 (Int.toNat
 (0 :
 Int))
 (List.take
 (min
 x.1
 (↑(sortT
 g_2.2.2.2.1
 g_2.2.1).length :
 Int)).toNat
 (sortT
 g_2.2.2.2.1
 g_2.2.1))).getD
 g_3.2.2.1.toNat
 (-1 :
 Int))).2.1,
 (mval
 tythread
 g_5.1
 ((List.drop
 (Int.toNat
 (0 :
 Int))
 (List.take
 (min
 x.1
 (↑(sortT
 g_2.2.2.2.1
 g_2.2.1).length :
 Int)).toNat
 (sortT
 g_2.2.2.2.1
 g_2.2.1))).getD
 g_3.2.2.1.toNat
 (-1 :
 Int))).2.2.1,
 (0 :
 Int)))
 ((List.drop
 (Int.toNat
 (0 :
 Int))
 (List.take
 (min
 x.1
 (↑(sortT
 g_2.2.2.2.1
 g_2.2.1).length :
 Int)).toNat
 (sortT
 g_2.2.2.2.1
 g_2.2.1))).getD
 g_3.2.2.1.toNat
 (-1 :
 Int))).1.2.2),
 (mval tythread
 (mput tythread
 g_5.1
 ((List.drop
 (Int.toNat
 (0 :
 Int))
 (List.take
 (min
 x.1
 (↑(sortT
 g_2.2.2.2.1
 g_2.2.1).length :
 Int)).toNat
 (sortT
 g_2.2.2.2.1
 g_2.2.1))).getD
 g_3.2.2.1.toNat
 (-1 :
 Int))
 (((mval
 tythread
 g_5.1
 ((List.drop
 (Int.toNat
 (0 :
 Int))
 (List.take
 (min
 x.1
 (↑(sortT
 g_2.2.2.2.1
 g_2.2.1).length :
 Int)).toNat
 (sortT
 g_2.2.2.2.1
 g_2.2.1))).getD
 g_3.2.2.1.toNat
 (-1 :
 Int))).1.1,
 (mval
 tythread
 g_5.1
 ((List.drop
 (Int.toNat
 (0 :
 Int))
 (List.take
 (min
 x.1
 (↑(sortT
 g_2.2.2.2.1
 g_2.2.1).length :
 Int)).toNat
 (sortT
 g_2.2.2.2.1
 g_2.2.1))).getD
 g_3.2.2.1.toNat
 (-1 :
 Int))).1.2.1,
 (mval
 tythread
 g_5.1
 ((List.drop
 (Int.toNat
 (0 :
 Int))
 (List.take
 (min
 x.1
 (↑(sortT
 g_2.2.2.2.1
 g_2.2.1).length :
 Int)).toNat
 (sortT
 g_2.2.2.2.1
 g_2.2.1))).getD
 g_3.2.2.1.toNat
 (-1 :
 Int))).1.2.2),
 (mval
 tythread
 g_5.1
 ((List.drop
 (Int.toNat
 (0 :
 Int))
 (List.take
 (min
 x.1
 (↑(sortT
 g_2.2.2.2.1
 g_2.2.1).length :
 Int)).toNat
 (sortT
 g_2.2.2.2.1
 g_2.2.1))).getD
 g_3.2.2.1.toNat
 (-1 :
 Int))).2.1,
 (mval
 tythread
 g_5.1
 ((List.drop
 (Int.toNat
 (0 :
 Int))
 (List.take
 (min
 x.1
 (↑(sortT
 g_2.2.2.2.1
 g_2.2.1).length :
 Int)).toNat
 (sortT
 g_2.2.2.2.1
 g_2.2.1))).getD
 g_3.2.2.1.toNat
 (-1 :
 Int))).2.2.1,
 (0 :
 Int)))
 ((List.drop
 (Int.toNat
 (0 :
 Int))
 (List.take
 (min
 x.1
 (↑(sortT
 g_2.2.2.2.1
 g_2.2.1).length :
 Int)).toNat
 (sortT
 g_2.2.2.2.1
 g_2.2.1))).getD
 g_3.2.2.1.toNat
 (-1 :
 Int))).2.1,
 g_3.1 + (1 : Int),
 (mval tythread
 (mput
 tythread
 g_5.1
 ((List.drop
 (Int.toNat
 (0 :
 Int))
 (List.take
 (min
 x.1
 (↑(sortT
 g_2.2.2.2.1
 g_2.2.1).length :
 Int)).toNat
 (sortT
 g_2.2.2.2.1
 g_2.2.1))).getD
 g_3.2.2.1.toNat
 (-1 :
 Int))
 (((mval
 tythread
 g_5.1
 ((List.drop
 (Int.toNat
 (0 :
 Int))
 (List.take
 (min
 x.1
 (↑(sortT
 g_2.2.2.2.1
 g_2.2.1).length :
 Int)).toNat
 (sortT
 g_2.2.2.2.1
 g_2.2.1))).getD
 g_3.2.2.1.toNat
 (-1 :
 Int))).1.1,
 (mval
 tythread
 g_5.1
 ((List.drop
 (Int.toNat
 (0 :
 Int))
 (List.take
 (min
 x.1
 (↑(sortT
 g_2.2.2.2.1
 g_2.2.1).length :
 Int)).toNat
 (sortT
 g_2.2.2.2.1
 g_2.2.1))).getD
 g_3.2.2.1.toNat
 (-1 :
 Int))).1.2.1,
 (mval
 tythread
 g_5.1
 ((List.drop
 (Int.toNat
 (0 :
 Int))
 (List.take
 (min
 x.1
 (↑(sortT
 g_2.2.2.2.1
 g_2.2.1).length :
 Int)).toNat
 (sortT
 g_2.2.2.2.1
 g_2.2.1))).getD
 g_3.2.2.1.toNat
 (-1 :
 Int))).1.2.2),
 (mval
 tythread
 g_5.1
 ((List.drop
 (Int.toNat
 (0 :
 Int))
 (List.take
 (min
 x.1
 (↑(sortT
 g_2.2.2.2.1
 g_2.2.1).length :
 Int)).toNat
 (sortT
 g_2.2.2.2.1
 g_2.2.1))).getD
 g_3.2.2.1.toNat
 (-1 :
 Int))).2.1,
 (mval
 tythread
 g_5.1
 ((List.drop
 (Int.toNat
 (0 :
 Int))
 (List.take
 (min
 x.1
 (↑(sortT
 g_2.2.2.2.1
 g_2.2.1).length :
 Int)).toNat
 (sortT
 g_2.2.2.2.1
 g_2.2.1))).getD
 g_3.2.2.1.toNat
 (-1 :
 Int))).2.2.1,
 (0 :
 Int)))
 ((List.drop
 (Int.toNat
 (0 :
 Int))
 (List.take
 (min
 x.1
 (↑(sortT
 g_2.2.2.2.1
 g_2.2.1).length :
 Int)).toNat
 (sortT
 g_2.2.2.2.1
 g_2.2.1))).getD
 g_3.2.2.1.toNat
 (-1 :
 Int))).2.2.2) ∧
 g.1 = g.1 ∧
 g_1.2.1 =
 g_1.2.1 ∧
 True) ∧
 True) ∧
 (((mval tythread g_5.1
 ((List.drop (Int.toNat (0 : Int))
 (List.take
 (min x.1
 (↑(sortT
 g_2.2.2.2.1
 g_2.2.1).length :
 Int)).toNat
 (sortT g_2.2.2.2.1
 g_2.2.1))).getD
 g_3.2.2.1.toNat
 (-1 : Int))).2.2.2 ==
 x.2.1) =
 false →
 ((-9223372036854775808 : Int) ≤
 g_3.2.2.1 + (1 : Int) ∧
 g_3.2.2.1 + (1 : Int) ≤
 (9223372036854775807 : Int)) ∧
 (((0 : Int) ≤ g_3.2.2.1 + (1 : Int) ∧
 g_3.2.2.1 + (1 : Int) ≤
 (↑(List.drop (Int.toNat (0 : Int))
 (List.take
 (min x.1
 (↑(sortT
 g_2.2.2.2.1
 g_2.2.1).length :
 Int)).toNat
 (sortT g_2.2.2.2.1
 g_2.2.1))).length :
 Int) ∧
 ((0 : Int) ≤ g_3.1 ∧
 g_3.1 ≤
 (100 : Int) * g_1.2.2.1 +
 (64 : Int) +
 (g_3.2.2.1 +
 (1 : Int))) ∧
 ∃ q,
 q =
 (nst x.1 x.2.1
 x.2.2.1
 g_1.2.2.1.toNat).1 ∧
 g_3.2.1 ++
 ((0 : Int) ::
 ([] : List Int)).set
 (0 : Nat)
 (mval tythread
 g_3.2.2.2.1
 ((List.drop
 (Int.toNat
 (0 : Int))
 (List.take
 (min x.1
 (↑(sortT
 g_2.2.2.2.1
 g_2.2.1).length :
 Int)).toNat
 (sortT
 g_2.2.2.2.1
 g_2.2.1))).getD
 g_3.2.2.1.toNat
 (-1 :
 Int))).2.1 =
 List.take
 (g_3.2.2.1 +
 (1 : Int)).toNat
 (runs x.1 x.2.2.1
 g_1.2.2.1 q) ∧
 RT x.2.2.1 x.2.1
 g_3.1 g.1 g_5.1
 (List.foldl (stA x.2.1)
 (mid x.2.2.1
 g_1.2.2.1 q)
 (List.take
 (g_3.2.2.1 +
 (1 : Int)).toNat
 (runs x.1
 x.2.2.1
 g_1.2.2.1
 q)))) ∧
 ((↑(List.drop (Int.toNat (0 : Int))
 (List.take
 (min x.1
 (↑(sortT
 g_2.2.2.2.1
 g_2.2.1).length :
 Int)).toNat
 (sortT g_2.2.2.2.1
 g_2.2.1))).length :
 Int) -
 (g_3.2.2.1 +
 (1 : Int))).toNat <
 ((↑(List.drop (Int.toNat (0 : Int))
 (List.take
 (min x.1
 (↑(sortT
 g_2.2.2.2.1
 g_2.2.1).length :
 Int)).toNat
 (sortT g_2.2.2.2.1
 g_2.2.1))).length :
 Int) -
 g_3.2.2.1).toNat) ∧
 (x.1 = x.1 ∧
 x.2.1 = x.2.1 ∧
 True ∧
 g_3.1 = g_3.1 ∧
 True ∧
 True ∧
 x.2.2.2.1 =
 x.2.2.2.1 ∧
 g_1.2.2.1 =
 g_1.2.2.1 ∧
 List.drop
 (Int.toNat
 (0 : Int))
 (List.take
 (min x.1
 (↑(sortT
 g_2.2.2.2.1
 g_2.2.1).length :
 Int)).toNat
 (sortT
 g_2.2.2.2.1
 g_2.2.1)) =
 List.drop
 (Int.toNat
 (0 : Int))
 (List.take
 (min x.1
 (↑(sortT
 g_2.2.2.2.1
 g_2.2.1).length :
 Int)).toNat
 (sortT
 g_2.2.2.2.1
 g_2.2.1)) ∧
 (↑(List.drop
 (Int.toNat
 (0 : Int))
 (List.take
 (min x.1
 (↑(sortT
 g_2.2.2.2.1
 g_2.2.1).length :
 Int)).toNat
 (sortT
 g_2.2.2.2.1
 g_2.2.1))).length :
 Int) =
 (↑(List.drop
 (Int.toNat
 (0 : Int))
 (List.take
 (min x.1
 (↑(sortT
 g_2.2.2.2.1
 g_2.2.1).length :
 Int)).toNat
 (sortT
 g_2.2.2.2.1
 g_2.2.1))).length :
 Int) ∧
 g_3.2.2.1 +
 (1 : Int) =
 g_3.2.2.1 +
 (1 : Int) ∧
 True) ∧
 (g_3.2.1 ++
 ((0 : Int) :: ([] : List Int)).set
 (0 : Nat)
 (mval tythread
 g_3.2.2.2.1
 ((List.drop
 (Int.toNat
 (0 : Int))
 (List.take
 (min x.1
 (↑(sortT
 g_2.2.2.2.1
 g_2.2.1).length :
 Int)).toNat
 (sortT
 g_2.2.2.2.1
 g_2.2.1))).getD
 g_3.2.2.1.toNat
 (-1 : Int))).2.1 =
 g_3.2.1 ++
 ((0 : Int) :: ([] : List Int)).set
 (0 : Nat)
 (mval tythread
 g_3.2.2.2.1
 ((List.drop
 (Int.toNat
 (0 : Int))
 (List.take
 (min x.1
 (↑(sortT
 g_2.2.2.2.1
 g_2.2.1).length :
 Int)).toNat
 (sortT
 g_2.2.2.2.1
 g_2.2.1))).getD
 g_3.2.2.1.toNat
 (-1 : Int))).2.1 ∧
 g_5.1 = g_5.1 ∧
 g.1 = g.1 ∧
 g_1.2.1 = g_1.2.1 ∧
 True) ∧
 True)) ∧
 (decide
 (g_3.2.2.1 <
 (↑(List.drop (Int.toNat (0 : Int))
 (List.take
 (min x.1
 (↑(sortT g_2.2.2.2.1 g_2.2.1).length :
 Int)).toNat
 (sortT g_2.2.2.2.1 g_2.2.1))).length :
 Int)) =
 false →
 Holds (g_3.2.1.length.le (400 : Nat)) ∧
 ((True ∧ True) ∧ g_3.2.1 = g_3.2.1 ∧ True) ∧
 (g_1.2.1.length +
 ((([] : List Int) :: ([] : List (List Int))).set (0 : Nat)
 (sortI g_3.2.1)).length ≤
 (9223372036854775807 : Nat) ∧
 (g_1.2.1.length +
 ((([] : List Int) :: ([] : List (List Int))).set (0 : Nat)
 (sortI g_3.2.1)).length +
 (g_1.2.1.length +
 ((([] : List Int) :: ([] : List (List Int))).set (0 : Nat)
 (sortI g_3.2.1)).length) /
 (4 : Nat) +
 (192 : Nat)) *
 (24 : Nat) ≤
 (281474976710656 : Nat)) ∧
 ((-9223372036854775808 : Int) ≤ g_1.2.2.1 + (1 : Int) ∧
 g_1.2.2.1 + (1 : Int) ≤ (9223372036854775807 : Int)) ∧
 (((0 : Int) ≤ g_1.2.2.1 + (1 : Int) ∧
 g_1.2.2.1 + (1 : Int) ≤ x.2.2.2.1 ∧
 ((0 : Int) ≤ g_3.1 ∧
 g_3.1 ≤ (100 : Int) * (g_1.2.2.1 + (1 : Int))) ∧
 (nst x.1 x.2.1 x.2.2.1
 (g_1.2.2.1 + (1 : Int)).toNat).2 =
 g_1.2.1 ++
 (([] : List Int) :: ([] : List (List Int))).set
 (0 : Nat) (sortI g_3.2.1) ∧
 IN x.2.2.1 (g_1.2.2.1 + (1 : Int)) (0 : Nat)
 (nst x.1 x.2.1 x.2.2.1
 (g_1.2.2.1 + (1 : Int)).toNat).1.1 ∧
 RT x.2.2.1 x.2.1 g_3.1 g.1
 g_3.2.2.2.1
 (nst x.1 x.2.1 x.2.2.1
 (g_1.2.2.1 + (1 : Int)).toNat).1) ∧
 (x.2.2.2.1 - (g_1.2.2.1 + (1 : Int))).toNat <
 (x.2.2.2.1 - g_1.2.2.1).toNat) ∧
 (x.1 = x.1 ∧
 x.2.1 = x.2.1 ∧
 True ∧
 g_3.1 = g_3.1 ∧
 True ∧
 x.2.2.2.1 = x.2.2.2.1 ∧
 g_1.2.2.1 + (1 : Int) =
 g_1.2.2.1 + (1 : Int) ∧
 True) ∧
 (g_1.2.1 ++
 (([] : List Int) :: ([] : List (List Int))).set (0 : Nat)
 (sortI g_3.2.1) =
 g_1.2.1 ++
 (([] : List Int) :: ([] : List (List Int))).set (0 : Nat)
 (sortI g_3.2.1) ∧
 g_3.2.2.2.1 = g_3.2.2.2.1 ∧
 g.1 = g.1 ∧ True) ∧
 True))) ∧
 (decide (g_1.2.2.1 < x.2.2.2.1) = false →
 g_1.2.1 = (crun x.1 x.2.1 x.2.2.1 x.2.2.2.1).1 ∧
 (0 : Int) = (crun x.1 x.2.1 x.2.2.1 x.2.2.2.1).2))))

theorem E_run_eq (x : HL (cRun : Ctr).as) : vc (fx_run x) 1 23 Try.f23 (cRun) x = E_run x := by kernel_rfl

def E_law (x : Int × Int × List (Int × Int × Int) × Int × Unit) : Prop :=
 Holds True ∧
 Holds True ∧
 Holds True ∧
 ((wr x.1 x.2.1 x.2.2.1 != wr x.1 x.2.1 x.2.2.1) = true → false = true) ∧
 ((wr x.1 x.2.1 x.2.2.1 != wr x.1 x.2.1 x.2.2.1) = false →
 ((wr x.1 x.2.1 x.2.2.1 == (0 : Int)) = true → (wr x.1 x.2.1 x.2.2.1 == (0 : Int)) = true) ∧
 ((wr x.1 x.2.1 x.2.2.1 == (0 : Int)) = true → (wr x.1 x.2.1 x.2.2.1 == (0 : Int)) = true) ∧
 ((wr x.1 x.2.1 x.2.2.1 == (0 : Int) && !decide (x.2.2.2.1 < (0 : Int))) = true →
 (wr x.1 x.2.1 x.2.2.1 == (0 : Int) && !decide (x.2.2.2.1 < (0 : Int))) = true) ∧
 ((wr x.1 x.2.1 x.2.2.1 == (0 : Int)) = true →
 (wr x.1 x.2.1 x.2.2.1 == (0 : Int)) = true ∧
 (decide (x.2.2.2.1 < (0 : Int)) = false →
 (wr x.1 x.2.1 x.2.2.1 == (0 : Int) && !decide (x.2.2.2.1 < (0 : Int))) = true)) ∧
 ((wr x.1 x.2.1 x.2.2.1 == (0 : Int)) = true → (wr x.1 x.2.1 x.2.2.1 == (0 : Int)) = true) ∧
 ((wr x.1 x.2.1 x.2.2.1 == (0 : Int) &&
 (decide (x.2.2.2.1 < (0 : Int)) || decide ((2000 : Int) < x.2.2.2.1))) =
 true →
 (((2 : Int) != (0 : Int)) = true →
 (((crun x.1 x.2.1 x.2.2.1 x.2.2.2.1).2 == (2 : Int)) = true →
 ((crun x.1 x.2.1 x.2.2.1 x.2.2.2.1).2 == (2 : Int)) = true) ∧
 (((crun x.1 x.2.1 x.2.2.1 x.2.2.2.1).2 == (2 : Int)) = true →
 ((crun x.1 x.2.1 x.2.2.1 x.2.2.2.1).2 == (2 : Int)) = true) ∧
 (((crun x.1 x.2.1 x.2.2.1 x.2.2.2.1).2 == (2 : Int)) = true →
 ((crun x.1 x.2.1 x.2.2.1 x.2.2.2.1).2 == (2 : Int)) = true) ∧
 ((crun x.1 x.2.1 x.2.2.1 x.2.2.2.1).2 == (2 : Int) &&
 (↑(crun x.1 x.2.1 x.2.2.1 x.2.2.2.1).1.length : Int) == (0 : Int)) =
 true) ∧
 (((2 : Int) != (0 : Int)) = false →
 (((crun x.1 x.2.1 x.2.2.1 x.2.2.2.1).2 == (0 : Int)) = true →
 (((crun x.1 x.2.1 x.2.2.1 x.2.2.2.1).2 == (0 : Int)) = true ∧
 ((crun x.1 x.2.1 x.2.2.1 x.2.2.2.1).2 == (0 : Int)) = true ∧
 ((crun x.1 x.2.1 x.2.2.1 x.2.2.2.1).2 == (0 : Int)) = true ∧
 ((crun x.1 x.2.1 x.2.2.1 x.2.2.2.1).2 == (0 : Int)) = true) ∧
 Holds
 (wr x.1 x.2.1 x.2.2.1 = (0 : Int) ∧
 (0 : Int) ≤ x.2.2.2.1 ∧ x.2.2.2.1 ≤ (2000 : Int)) ∧
 ((crun x.1 x.2.1 x.2.2.1 x.2.2.2.1).2 == (0 : Int)) = true ∧
 Holds True ∧
 decide
 ((crun x.1 x.2.1 x.2.2.1 x.2.2.2.1).1 =
 nrun x.1 x.2.1 x.2.2.1 x.2.2.2.1) =
 true) ∧
 (((crun x.1 x.2.1 x.2.2.1 x.2.2.2.1).2 == (0 : Int)) = !true → false = true))) ∧
 ((wr x.1 x.2.1 x.2.2.1 == (0 : Int) &&
 (decide (x.2.2.2.1 < (0 : Int)) || decide ((2000 : Int) < x.2.2.2.1))) =
 false →
 ((wr x.1 x.2.1 x.2.2.1 != (0 : Int)) = true →
 (((crun x.1 x.2.1 x.2.2.1 x.2.2.2.1).2 == wr x.1 x.2.1 x.2.2.1) = true →
 ((crun x.1 x.2.1 x.2.2.1 x.2.2.2.1).2 == wr x.1 x.2.1 x.2.2.1) = true) ∧
 (((crun x.1 x.2.1 x.2.2.1 x.2.2.2.1).2 == wr x.1 x.2.1 x.2.2.1) = true →
 ((crun x.1 x.2.1 x.2.2.1 x.2.2.2.1).2 == wr x.1 x.2.1 x.2.2.1) = true) ∧
 (((crun x.1 x.2.1 x.2.2.1 x.2.2.2.1).2 == wr x.1 x.2.1 x.2.2.1) = true →
 ((crun x.1 x.2.1 x.2.2.1 x.2.2.2.1).2 == wr x.1 x.2.1 x.2.2.1) = true) ∧
 ((crun x.1 x.2.1 x.2.2.1 x.2.2.2.1).2 == wr x.1 x.2.1 x.2.2.1 &&
 (↑(crun x.1 x.2.1 x.2.2.1 x.2.2.2.1).1.length : Int) == (0 : Int)) =
 true) ∧
 ((wr x.1 x.2.1 x.2.2.1 != (0 : Int)) = false →
 (((crun x.1 x.2.1 x.2.2.1 x.2.2.2.1).2 == (0 : Int)) = true →
 (((crun x.1 x.2.1 x.2.2.1 x.2.2.2.1).2 == (0 : Int)) = true ∧
 ((crun x.1 x.2.1 x.2.2.1 x.2.2.2.1).2 == (0 : Int)) = true ∧
 ((crun x.1 x.2.1 x.2.2.1 x.2.2.2.1).2 == (0 : Int)) = true ∧
 ((crun x.1 x.2.1 x.2.2.1 x.2.2.2.1).2 == (0 : Int)) = true) ∧
 Holds
 (wr x.1 x.2.1 x.2.2.1 = (0 : Int) ∧
 (0 : Int) ≤ x.2.2.2.1 ∧ x.2.2.2.1 ≤ (2000 : Int)) ∧
 ((crun x.1 x.2.1 x.2.2.1 x.2.2.2.1).2 == (0 : Int)) = true ∧
 Holds True ∧
 decide
 ((crun x.1 x.2.1 x.2.2.1 x.2.2.2.1).1 =
 nrun x.1 x.2.1 x.2.2.1 x.2.2.2.1) =
 true) ∧
 (((crun x.1 x.2.1 x.2.2.1 x.2.2.2.1).2 == (0 : Int)) = !true → false = true))))

theorem E_law_eq (x : HL (cLaw : Ctr).as) : vc (fx_law x) 1 6 Try.f6 (cLaw) x = E_law x := by kernel_rfl

end Go.Proofs.Ytpnmfoojmodnlaa.Cores
