/-
  The conditions that the executor comes to, written out (by a tool of ours), and that they are the conditions (by the kernel).
-/
import Derived.Test.YtjafnenkgmbgaaaDoorBenchC
namespace Go.Proofs.YtjafnenkgmbgaaaDoor.Bench
open Go.Sx
set_option maxRecDepth 100000

def E_equal (x : List (Int × Int × Int × Int) × List (Int × Int × Int × Int) × Unit) : Prop :=
 (((↑x.1.length : Int) != (↑x.2.1.length : Int)) = true → false = decide (x.1 = x.2.1)) ∧
 (((↑x.1.length : Int) != (↑x.2.1.length : Int)) = false →
 ((((0 : Int) ≤ (0 : Int) ∧
 (0 : Int) ≤ (↑x.1.length : Int) ∧ List.take (Int.toNat (0 : Int)) x.1 = List.take (Int.toNat (0 : Int)) x.2.1) ∧
 True) ∧
 (x.1 = x.1 ∧ x.2.1 = x.2.1 ∧ (↑x.1.length : Int) = (↑x.1.length : Int) ∧ (0 : Int) = (0 : Int) ∧ True) ∧ True ∧ True) ∧
 ∀ (g : Int × Unit),
 (0 : Int) ≤ g.1 ∧ g.1 ≤ (↑x.1.length : Int) ∧ List.take g.1.toNat x.1 = List.take g.1.toNat x.2.1 →
 ((-9223372036854775808 : Int) ≤ g.1 ∧ g.1 ≤ (9223372036854775807 : Int)) ∧ True →
 (decide (g.1 < (↑x.1.length : Int)) = true →
 ((0 : Int) ≤ g.1 ∧ g.1 < (↑x.1.length : Int)) ∧
 ((0 : Int) ≤ g.1 ∧ g.1 < (↑x.2.1.length : Int)) ∧
 ((!deq ((Ty.int IntKind.i64).pair ((Ty.int IntKind.i64).pair ((Ty.int IntKind.i64).pair (Ty.int IntKind.u8))))
 ((x.1.getD g.1.toNat ((0 : Int), (0 : Int), (0 : Int), (0 : Int))).1,
 (x.1.getD g.1.toNat ((0 : Int), (0 : Int), (0 : Int), (0 : Int))).2.1,
 (x.1.getD g.1.toNat ((0 : Int), (0 : Int), (0 : Int), (0 : Int))).2.2.1,
 (x.1.getD g.1.toNat ((0 : Int), (0 : Int), (0 : Int), (0 : Int))).2.2.2)
 ((x.2.1.getD g.1.toNat ((0 : Int), (0 : Int), (0 : Int), (0 : Int))).1,
 (x.2.1.getD g.1.toNat ((0 : Int), (0 : Int), (0 : Int), (0 : Int))).2.1,
 (x.2.1.getD g.1.toNat ((0 : Int), (0 : Int), (0 : Int), (0 : Int))).2.2.1,
 (x.2.1.getD g.1.toNat ((0 : Int), (0 : Int), (0 : Int), (0 : Int))).2.2.2)) =
 true →
 false = decide (x.1 = x.2.1)) ∧
 ((!deq ((Ty.int IntKind.i64).pair ((Ty.int IntKind.i64).pair ((Ty.int IntKind.i64).pair (Ty.int IntKind.u8))))
 ((x.1.getD g.1.toNat ((0 : Int), (0 : Int), (0 : Int), (0 : Int))).1,
 (x.1.getD g.1.toNat ((0 : Int), (0 : Int), (0 : Int), (0 : Int))).2.1,
 (x.1.getD g.1.toNat ((0 : Int), (0 : Int), (0 : Int), (0 : Int))).2.2.1,
 (x.1.getD g.1.toNat ((0 : Int), (0 : Int), (0 : Int), (0 : Int))).2.2.2)
 ((x.2.1.getD g.1.toNat ((0 : Int), (0 : Int), (0 : Int), (0 : Int))).1,
 (x.2.1.getD g.1.toNat ((0 : Int), (0 : Int), (0 : Int), (0 : Int))).2.1,
 (x.2.1.getD g.1.toNat ((0 : Int), (0 : Int), (0 : Int), (0 : Int))).2.2.1,
 (x.2.1.getD g.1.toNat ((0 : Int), (0 : Int), (0 : Int), (0 : Int))).2.2.2)) =
 false →
 ((-9223372036854775808 : Int) ≤ g.1 + (1 : Int) ∧ g.1 + (1 : Int) ≤ (9223372036854775807 : Int)) ∧
 (((0 : Int) ≤ g.1 + (1 : Int) ∧
 g.1 + (1 : Int) ≤ (↑x.1.length : Int) ∧
 List.take (g.1 + (1 : Int)).toNat x.1 = List.take (g.1 + (1 : Int)).toNat x.2.1) ∧
 ((↑x.1.length : Int) - (g.1 + (1 : Int))).toNat < ((↑x.1.length : Int) - g.1).toNat) ∧
 (x.1 = x.1 ∧
 x.2.1 = x.2.1 ∧
 (↑x.1.length : Int) = (↑x.1.length : Int) ∧ g.1 + (1 : Int) = g.1 + (1 : Int) ∧ True) ∧
 True ∧ True)) ∧
 (decide (g.1 < (↑x.1.length : Int)) = false → true = decide (x.1 = x.2.1)))

theorem E_equal_eq (x : HL (cEqual : Ctr).as) : vc (fx_equal x) 1 8 Tryd.f8 (cEqual) x = E_equal x := by kernel_rfl

def E_words (x : Unit) : Prop := ((((((([] : List Int) :: ([] : List Int) :: ([] : List Int) :: ([] : List Int) :: ([] : List Int) :: ([] : List Int) :: ([] : List (List Int))).set (0 : Nat) ((105 : Int) :: List.map._f (fun b ↦ (↑b.toNat : Int)) ((110 : UInt8) :: ([] : List UInt8)) (List.rec ⟨([] : List Int), PUnit.unit⟩ (fun head tail tail_ih ↦ ⟨List.map._f (fun b ↦ (↑b.toNat : Int)) (head :: tail) tail_ih, tail_ih⟩) ([] : List UInt8)))).set (1 : Nat) ((114 : Int) :: List.map._f (fun b ↦ (↑b.toNat : Int)) ((117 : UInt8) :: (110 : UInt8) :: ([] : List UInt8)) (List.rec ⟨([] : List Int), PUnit.unit⟩ (fun head tail tail_ih ↦ ⟨List.map._f (fun b ↦ (↑b.toNat : Int)) (head :: tail) tail_ih, tail_ih⟩) ((110 : UInt8) :: ([] : List UInt8))))).set (2 : Nat) ((114 : Int) :: List.map._f (fun b ↦ (↑b.toNat : Int)) ((101 : UInt8) :: (97 : UInt8) :: (100 : UInt8) :: ([] : List UInt8)) (List.rec ⟨([] : List Int), PUnit.unit⟩ (fun head tail tail_ih ↦ ⟨List.map._f (fun b ↦ (↑b.toNat : Int)) (head :: tail) tail_ih, tail_ih⟩) ((97 : UInt8) :: (100 : UInt8) :: ([] : List UInt8))))).set (3 : Nat) ((115 : Int) :: List.map._f (fun b ↦ (↑b.toNat : Int)) ((97 : UInt8) :: (118 : UInt8) :: (101 : UInt8) :: ([] : List UInt8)) (List.rec ⟨([] : List Int), PUnit.unit⟩ (fun head tail tail_ih ↦ ⟨List.map._f (fun b ↦ (↑b.toNat : Int)) (head :: tail) tail_ih, tail_ih⟩) ((118 : UInt8) :: (101 : UInt8) :: ([] : List UInt8))))).set (4 : Nat) ((114 : Int) :: List.map._f (fun b ↦ (↑b.toNat : Int)) ((101 : UInt8) :: (115 : UInt8) :: (116 : UInt8) :: (111 : UInt8) :: (114 : UInt8) :: (101 : UInt8) :: ([] : List UInt8)) (List.rec ⟨([] : List Int), PUnit.unit⟩ (fun head tail tail_ih ↦ ⟨List.map._f (fun b ↦ (↑b.toNat : Int)) (head :: tail) tail_ih, tail_ih⟩) ((115 : UInt8) :: (116 : UInt8) :: (111 : UInt8) :: (114 : UInt8) :: (101 : UInt8) :: ([] : List UInt8))))).set (5 : Nat) ((109 : Int) :: List.map._f (fun b ↦ (↑b.toNat : Int)) ((111 : UInt8) :: (118 : UInt8) :: (101 : UInt8) :: ([] : List UInt8)) (List.rec ⟨([] : List Int), PUnit.unit⟩ (fun head tail tail_ih ↦ ⟨List.map._f (fun b ↦ (↑b.toNat : Int)) (head :: tail) tail_ih, tail_ih⟩) ((118 : UInt8) :: (101 : UInt8) :: ([] : List UInt8)))) = wordsK

theorem E_words_eq (x : HL (cWords : Ctr).as) : vc (fx_words x) 1 18 Tryd.f18 (cWords) x = E_words x := by kernel_rfl

def E_line (x : (Int × Int × Int × Int) × Unit) : Prop := ((!decide (x.1.1 < (1 : Int))) = true →
 (!decide (x.1.1 < (1 : Int))) = true) ∧
 ((!decide (x.1.1 < (1 : Int))) = true →
 (!decide (x.1.1 < (1 : Int))) = true) ∧
 (decide (x.1.1 < (1 : Int)) = false →
 (!decide (x.1.1 < (1 : Int))) = true) ∧
 ((decide (x.1.1 < (1 : Int)) || decide ((6 : Int) < x.1.1)) = true →
 (([] : List Int) = if okK x.1 = true then txtK x.1 else ([] : List Int)) ∧
 false = okK x.1) ∧
 ((decide (x.1.1 < (1 : Int)) || decide ((6 : Int) < x.1.1)) = false →
 ((x.1.1 == (3 : Int)) = true →
 ((x.1.1 == (1 : Int)) = true →
 ((-9223372036854775808 : Int) ≤ x.1.2.2.2 ∧
 x.1.2.2.2 ≤ (9223372036854775807 : Int)) ∧
 ((!decide (x.1.2.2.2 < (0 : Int))) = true →
 (!decide (x.1.2.2.2 < (0 : Int))) = true) ∧
 (decide (x.1.2.2.2 < (0 : Int)) = false →
 (!decide (x.1.2.2.2 < (0 : Int))) = true) ∧
 ((decide (x.1.2.2.2 < (0 : Int)) || decide ((1099511627776 : Int) < x.1.2.2.2)) = true →
 (([] : List Int) = if okK x.1 = true then txtK x.1 else ([] : List Int)) ∧
 false = okK x.1) ∧
 ((decide (x.1.2.2.2 < (0 : Int)) || decide ((1099511627776 : Int) < x.1.2.2.2)) = false →
 Holds True ∧
 ((-9223372036854775808 : Int) ≤ x.1.1 - (1 : Int) ∧
 x.1.1 - (1 : Int) ≤ (9223372036854775807 : Int)) ∧
 ((0 : Int) ≤ x.1.1 - (1 : Int) ∧
 x.1.1 - (1 : Int) < (↑wordsK.length : Int)) ∧
 (wordsK.getD (x.1.1 - (1 : Int)).toNat ([] : List Int)).length + ((32 : Int) :: ([] : List Int)).length ≤ (9223372036854775807 : Nat) ∧
 Holds ((0 : Int) ≤ x.1.2.2.2 ∧
 x.1.2.2.2 ≤ (1099511627776 : Int)) ∧
 (wordsK.getD (x.1.1 - (1 : Int)).toNat ([] : List Int) ++ (32 : Int) :: ([] : List Int)).length + (dec x.1.2.2.2).length ≤ (9223372036854775807 : Nat) ∧
 (wordsK.getD (x.1.1 - (1 : Int)).toNat ([] : List Int) ++ (32 : Int) :: ([] : List Int) ++ dec x.1.2.2.2 = if okK x.1 = true then txtK x.1 else ([] : List Int)) ∧
 true = okK x.1)) ∧
 ((x.1.1 == (1 : Int)) = false →
 ((!decide (x.1.2.2.1 < (0 : Int))) = true →
 (!decide (x.1.2.2.1 < (0 : Int))) = true) ∧
 (decide (x.1.2.2.1 < (0 : Int)) = false →
 (!decide (x.1.2.2.1 < (0 : Int))) = true) ∧
 ((decide (x.1.2.2.1 < (0 : Int)) || decide ((1099511627776 : Int) < x.1.2.2.1)) = true →
 (([] : List Int) = if okK x.1 = true then txtK x.1 else ([] : List Int)) ∧
 false = okK x.1) ∧
 ((decide (x.1.2.2.1 < (0 : Int)) || decide ((1099511627776 : Int) < x.1.2.2.1)) = false →
 Holds True ∧
 ((-9223372036854775808 : Int) ≤ x.1.1 - (1 : Int) ∧
 x.1.1 - (1 : Int) ≤ (9223372036854775807 : Int)) ∧
 ((0 : Int) ≤ x.1.1 - (1 : Int) ∧
 x.1.1 - (1 : Int) < (↑wordsK.length : Int)) ∧
 (wordsK.getD (x.1.1 - (1 : Int)).toNat ([] : List Int)).length + ((32 : Int) :: ([] : List Int)).length ≤ (9223372036854775807 : Nat) ∧
 Holds ((0 : Int) ≤ x.1.2.2.1 ∧
 x.1.2.2.1 ≤ (1099511627776 : Int)) ∧
 (wordsK.getD (x.1.1 - (1 : Int)).toNat ([] : List Int) ++ (32 : Int) :: ([] : List Int)).length + (dec x.1.2.2.1).length ≤ (9223372036854775807 : Nat) ∧
 (wordsK.getD (x.1.1 - (1 : Int)).toNat ([] : List Int) ++ (32 : Int) :: ([] : List Int) ++ dec x.1.2.2.1 = if okK x.1 = true then txtK x.1 else ([] : List Int)) ∧
 true = okK x.1))) ∧
 ((x.1.1 == (3 : Int)) = false →
 ((x.1.1 == (1 : Int)) = true →
 ((-9223372036854775808 : Int) ≤ x.1.2.2.2 ∧
 x.1.2.2.2 ≤ (9223372036854775807 : Int)) ∧
 ((!decide (x.1.2.2.2 < (0 : Int))) = true →
 (!decide (x.1.2.2.2 < (0 : Int))) = true) ∧
 (decide (x.1.2.2.2 < (0 : Int)) = false →
 (!decide (x.1.2.2.2 < (0 : Int))) = true) ∧
 ((decide (x.1.2.2.2 < (0 : Int)) || decide ((1099511627776 : Int) < x.1.2.2.2)) = true →
 (([] : List Int) = if okK x.1 = true then txtK x.1 else ([] : List Int)) ∧
 false = okK x.1) ∧
 ((decide (x.1.2.2.2 < (0 : Int)) || decide ((1099511627776 : Int) < x.1.2.2.2)) = false →
 Holds True ∧
 ((-9223372036854775808 : Int) ≤ x.1.1 - (1 : Int) ∧
 x.1.1 - (1 : Int) ≤ (9223372036854775807 : Int)) ∧
 ((0 : Int) ≤ x.1.1 - (1 : Int) ∧
 x.1.1 - (1 : Int) < (↑wordsK.length : Int)) ∧
 (wordsK.getD (x.1.1 - (1 : Int)).toNat ([] : List Int)).length + ((32 : Int) :: ([] : List Int)).length ≤ (9223372036854775807 : Nat) ∧
 Holds ((0 : Int) ≤ x.1.2.2.2 ∧
 x.1.2.2.2 ≤ (1099511627776 : Int)) ∧
 (wordsK.getD (x.1.1 - (1 : Int)).toNat ([] : List Int) ++ (32 : Int) :: ([] : List Int)).length + (dec x.1.2.2.2).length ≤ (9223372036854775807 : Nat) ∧
 (wordsK.getD (x.1.1 - (1 : Int)).toNat ([] : List Int) ++ (32 : Int) :: ([] : List Int) ++ dec x.1.2.2.2 = if okK x.1 = true then txtK x.1 else ([] : List Int)) ∧
 true = okK x.1)) ∧
 ((x.1.1 == (1 : Int)) = false →
 ((!decide (x.1.2.1 < (0 : Int))) = true →
 (!decide (x.1.2.1 < (0 : Int))) = true) ∧
 (decide (x.1.2.1 < (0 : Int)) = false →
 (!decide (x.1.2.1 < (0 : Int))) = true) ∧
 ((decide (x.1.2.1 < (0 : Int)) || decide ((1099511627776 : Int) < x.1.2.1)) = true →
 (([] : List Int) = if okK x.1 = true then txtK x.1 else ([] : List Int)) ∧
 false = okK x.1) ∧
 ((decide (x.1.2.1 < (0 : Int)) || decide ((1099511627776 : Int) < x.1.2.1)) = false →
 Holds True ∧
 ((-9223372036854775808 : Int) ≤ x.1.1 - (1 : Int) ∧
 x.1.1 - (1 : Int) ≤ (9223372036854775807 : Int)) ∧
 ((0 : Int) ≤ x.1.1 - (1 : Int) ∧
 x.1.1 - (1 : Int) < (↑wordsK.length : Int)) ∧
 (wordsK.getD (x.1.1 - (1 : Int)).toNat ([] : List Int)).length + ((32 : Int) :: ([] : List Int)).length ≤ (9223372036854775807 : Nat) ∧
 Holds ((0 : Int) ≤ x.1.2.1 ∧
 x.1.2.1 ≤ (1099511627776 : Int)) ∧
 (wordsK.getD (x.1.1 - (1 : Int)).toNat ([] : List Int) ++ (32 : Int) :: ([] : List Int)).length + (dec x.1.2.1).length ≤ (9223372036854775807 : Nat) ∧
 (wordsK.getD (x.1.1 - (1 : Int)).toNat ([] : List Int) ++ (32 : Int) :: ([] : List Int) ++ dec x.1.2.1 = if okK x.1 = true then txtK x.1 else ([] : List Int)) ∧
 true = okK x.1))))

theorem E_line_eq (x : HL (cLine : Ctr).as) : vc (fx_line x) 2 9 Tryd.f9 (cLine) x = E_line x := by kernel_rfl

def E_read (x : List Int × Unit) : Prop := Holds (x.1.length ≤ (1048576 : Nat) ∧
 ((32 : Int) :: ([] : List Int)).length = (1 : Nat)) ∧
 Holds ((cutB x.1 ((32 : Int) :: ([] : List Int))).length ≤ (1048576 : Nat)) ∧
 Holds True ∧
 ((((0 : Int) ≤ (0 : Int) ∧
 (0 : Int) ≤ (6 : Int) ∧
 readB x.1 = if atoiE (cutB x.1 ((32 : Int) :: ([] : List Int))) = true then (((0 : Int), (0 : Int), (0 : Int), (0 : Int)), false) else readO (cutA x.1 ((32 : Int) :: ([] : List Int))) (atoiV (cutB x.1 ((32 : Int) :: ([] : List Int)))) x.1 ((6 : Int) - (0 : Int)).toNat) ∧
 True) ∧
 (x.1 = x.1 ∧
 (True ∧
 True) ∧
 RR (cutA x.1 ((32 : Int) :: ([] : List Int))) ∧
 RR (atoiV (cutB x.1 ((32 : Int) :: ([] : List Int)))) ∧
 RR (atoiE (cutB x.1 ((32 : Int) :: ([] : List Int)))) ∧
 True ∧
 RR (↑wordsK.length : Int) ∧
 RR (0 : Int) ∧
 True) ∧
 ((RR (0 : Int) ∧
 RR (0 : Int) ∧
 RR (0 : Int) ∧
 RR (0 : Int) ∧
 True) ∧
 wordsK = wordsK ∧
 True) ∧
 True) ∧
 ∀ (g : Int × Unit), ((0 : Int) ≤ g.1 ∧
 g.1 ≤ (6 : Int) ∧
 readB x.1 = if atoiE (cutB x.1 ((32 : Int) :: ([] : List Int))) = true then (((0 : Int), (0 : Int), (0 : Int), (0 : Int)), false) else readO (cutA x.1 ((32 : Int) :: ([] : List Int))) (atoiV (cutB x.1 ((32 : Int) :: ([] : List Int)))) x.1 ((6 : Int) - g.1).toNat) →
 ((-9223372036854775808 : Int) ≤ g.1 ∧
 g.1 ≤ (9223372036854775807 : Int)) ∧
 True →
 (decide (g.1 < (↑wordsK.length : Int)) = true →
 ((0 : Int) ≤ g.1 ∧
 g.1 < (↑wordsK.length : Int)) ∧
 ((!!decide (wordsK.getD g.1.toNat ([] : List Int) = cutA x.1 ((32 : Int) :: ([] : List Int)))) = true →
 (!!decide (wordsK.getD g.1.toNat ([] : List Int) = cutA x.1 ((32 : Int) :: ([] : List Int)))) = true) ∧
 ((!decide (wordsK.getD g.1.toNat ([] : List Int) = cutA x.1 ((32 : Int) :: ([] : List Int)))) = false →
 (!!decide (wordsK.getD g.1.toNat ([] : List Int) = cutA x.1 ((32 : Int) :: ([] : List Int)))) = true) ∧
 ((!decide (wordsK.getD g.1.toNat ([] : List Int) = cutA x.1 ((32 : Int) :: ([] : List Int))) || atoiE (cutB x.1 ((32 : Int) :: ([] : List Int)))) = true →
 ((-9223372036854775808 : Int) ≤ g.1 + (1 : Int) ∧
 g.1 + (1 : Int) ≤ (9223372036854775807 : Int)) ∧
 (((0 : Int) ≤ g.1 + (1 : Int) ∧
 g.1 + (1 : Int) ≤ (6 : Int) ∧
 readB x.1 = if atoiE (cutB x.1 ((32 : Int) :: ([] : List Int))) = true then (((0 : Int), (0 : Int), (0 : Int), (0 : Int)), false) else readO (cutA x.1 ((32 : Int) :: ([] : List Int))) (atoiV (cutB x.1 ((32 : Int) :: ([] : List Int)))) x.1 ((6 : Int) - (g.1 + (1 : Int))).toNat) ∧
 ((6 : Int) - (g.1 + (1 : Int))).toNat < ((6 : Int) - g.1).toNat) ∧
 (x.1 = x.1 ∧
 (True ∧
 True) ∧
 RR (cutA x.1 ((32 : Int) :: ([] : List Int))) ∧
 RR (atoiV (cutB x.1 ((32 : Int) :: ([] : List Int)))) ∧
 RR (atoiE (cutB x.1 ((32 : Int) :: ([] : List Int)))) ∧
 True ∧
 RR (↑wordsK.length : Int) ∧
 g.1 + (1 : Int) = g.1 + (1 : Int) ∧
 True) ∧
 ((RR (0 : Int) ∧
 RR (0 : Int) ∧
 RR (0 : Int) ∧
 RR (0 : Int) ∧
 True) ∧
 wordsK = wordsK ∧
 True) ∧
 True) ∧
 ((!decide (wordsK.getD g.1.toNat ([] : List Int) = cutA x.1 ((32 : Int) :: ([] : List Int))) || atoiE (cutB x.1 ((32 : Int) :: ([] : List Int)))) = false →
 ((-9223372036854775808 : Int) ≤ (1 : Int) + g.1 ∧
 (1 : Int) + g.1 ≤ (9223372036854775807 : Int)) ∧
 (((1 : Int) + g.1 == (1 : Int)) = true →
 Holds True ∧
 (okK ((1 : Int) + g.1, (0 : Int), (0 : Int), IntKind.u8.wrap (atoiV (cutB x.1 ((32 : Int) :: ([] : List Int))))) = true →
 okK ((1 : Int) + g.1, (0 : Int), (0 : Int), IntKind.u8.wrap (atoiV (cutB x.1 ((32 : Int) :: ([] : List Int))))) = true ∧
 okK ((1 : Int) + g.1, (0 : Int), (0 : Int), IntKind.u8.wrap (atoiV (cutB x.1 ((32 : Int) :: ([] : List Int))))) = true) ∧
 (okK ((1 : Int) + g.1, (0 : Int), (0 : Int), IntKind.u8.wrap (atoiV (cutB x.1 ((32 : Int) :: ([] : List Int))))) = true →
 okK ((1 : Int) + g.1, (0 : Int), (0 : Int), IntKind.u8.wrap (atoiV (cutB x.1 ((32 : Int) :: ([] : List Int))))) = true) ∧
 ((1 : Int) + g.1, (0 : Int), (0 : Int), IntKind.u8.wrap (atoiV (cutB x.1 ((32 : Int) :: ([] : List Int))))) = (readB x.1).1 ∧
 (okK ((1 : Int) + g.1, (0 : Int), (0 : Int), IntKind.u8.wrap (atoiV (cutB x.1 ((32 : Int) :: ([] : List Int))))) && decide ((if okK ((1 : Int) + g.1, (0 : Int), (0 : Int), IntKind.u8.wrap (atoiV (cutB x.1 ((32 : Int) :: ([] : List Int))))) = true then txtK ((1 : Int) + g.1, (0 : Int), (0 : Int), IntKind.u8.wrap (atoiV (cutB x.1 ((32 : Int) :: ([] : List Int))))) else ([] : List Int)) = x.1)) = (readB x.1).2) ∧
 (((1 : Int) + g.1 == (1 : Int)) = false →
 (((1 : Int) + g.1 == (3 : Int)) = true →
 Holds True ∧
 (okK ((1 : Int) + g.1, (0 : Int), atoiV (cutB x.1 ((32 : Int) :: ([] : List Int))), (0 : Int)) = true →
 okK ((1 : Int) + g.1, (0 : Int), atoiV (cutB x.1 ((32 : Int) :: ([] : List Int))), (0 : Int)) = true ∧
 okK ((1 : Int) + g.1, (0 : Int), atoiV (cutB x.1 ((32 : Int) :: ([] : List Int))), (0 : Int)) = true) ∧
 (okK ((1 : Int) + g.1, (0 : Int), atoiV (cutB x.1 ((32 : Int) :: ([] : List Int))), (0 : Int)) = true →
 okK ((1 : Int) + g.1, (0 : Int), atoiV (cutB x.1 ((32 : Int) :: ([] : List Int))), (0 : Int)) = true) ∧
 ((1 : Int) + g.1, (0 : Int), atoiV (cutB x.1 ((32 : Int) :: ([] : List Int))), (0 : Int)) = (readB x.1).1 ∧
 (okK ((1 : Int) + g.1, (0 : Int), atoiV (cutB x.1 ((32 : Int) :: ([] : List Int))), (0 : Int)) && decide ((if okK ((1 : Int) + g.1, (0 : Int), atoiV (cutB x.1 ((32 : Int) :: ([] : List Int))), (0 : Int)) = true then txtK ((1 : Int) + g.1, (0 : Int), atoiV (cutB x.1 ((32 : Int) :: ([] : List Int))), (0 : Int)) else ([] : List Int)) = x.1)) = (readB x.1).2) ∧
 (((1 : Int) + g.1 == (3 : Int)) = false →
 Holds True ∧
 (okK ((1 : Int) + g.1, atoiV (cutB x.1 ((32 : Int) :: ([] : List Int))), (0 : Int), (0 : Int)) = true →
 okK ((1 : Int) + g.1, atoiV (cutB x.1 ((32 : Int) :: ([] : List Int))), (0 : Int), (0 : Int)) = true ∧
 okK ((1 : Int) + g.1, atoiV (cutB x.1 ((32 : Int) :: ([] : List Int))), (0 : Int), (0 : Int)) = true) ∧
 (okK ((1 : Int) + g.1, atoiV (cutB x.1 ((32 : Int) :: ([] : List Int))), (0 : Int), (0 : Int)) = true →
 okK ((1 : Int) + g.1, atoiV (cutB x.1 ((32 : Int) :: ([] : List Int))), (0 : Int), (0 : Int)) = true) ∧
 ((1 : Int) + g.1, atoiV (cutB x.1 ((32 : Int) :: ([] : List Int))), (0 : Int), (0 : Int)) = (readB x.1).1 ∧
 (okK ((1 : Int) + g.1, atoiV (cutB x.1 ((32 : Int) :: ([] : List Int))), (0 : Int), (0 : Int)) && decide ((if okK ((1 : Int) + g.1, atoiV (cutB x.1 ((32 : Int) :: ([] : List Int))), (0 : Int), (0 : Int)) = true then txtK ((1 : Int) + g.1, atoiV (cutB x.1 ((32 : Int) :: ([] : List Int))), (0 : Int), (0 : Int)) else ([] : List Int)) = x.1)) = (readB x.1).2)))) ∧
 (decide (g.1 < (↑wordsK.length : Int)) = false →
 ((0 : Int), (0 : Int), (0 : Int), (0 : Int)) = (readB x.1).1 ∧
 false = (readB x.1).2)

theorem E_read_eq (x : HL (cRead : Ctr).as) : vc (fx_read x) 2 15 Tryd.f15 (cRead) x = E_read x := by kernel_rfl

def E_parse (x : List Int × Unit) : Prop := ((((0 : Int) ≤ (0 : Int) ∧
 (↑x.1.length : Int) + (0 : Int) ≤ (↑x.1.length : Int) ∧
 (↑([] : List (Int × Int × Int × Int)).length : Int) = (0 : Int) ∧
 parseB x.1 = parseO (x.1.length + (1 : Nat)) x.1 (0 : Int) ([] : List (Int × Int × Int × Int))) ∧
 True) ∧
 (x.1 = x.1 ∧
 True ∧
 RR (0 : Int) ∧
 True) ∧
 (RR ([] : List (Int × Int × Int × Int)) ∧
 True) ∧
 True) ∧
 ∀ (g : List Int × List (Int × Int × Int × Int) × Int × Unit), (0 : Int) ≤ g.2.2.1 ∧
 (↑g.1.length : Int) + g.2.2.1 ≤ (↑x.1.length : Int) ∧
 (↑g.2.1.length : Int) = g.2.2.1 ∧
 parseB x.1 = parseO (g.1.length + (1 : Nat)) g.1 g.2.2.1 g.2.1 →
 (g.1.length ≤ (9223372036854775807 : Nat) ∧
 ∀ (b : Int), b ∈ g.1 →
 (0 : Int) ≤ b ∧
 b ≤ (255 : Int)) ∧
 (g.2.1.length ≤ (9223372036854775807 : Nat) ∧
 ∀ (x : Int × Int × Int × Int), x ∈ g.2.1 →
 ((-9223372036854775808 : Int) ≤ x.1 ∧
 x.1 ≤ (9223372036854775807 : Int)) ∧
 ((-9223372036854775808 : Int) ≤ x.2.1 ∧
 x.2.1 ≤ (9223372036854775807 : Int)) ∧
 ((-9223372036854775808 : Int) ≤ x.2.2.1 ∧
 x.2.2.1 ≤ (9223372036854775807 : Int)) ∧
 (0 : Int) ≤ x.2.2.2 ∧
 x.2.2.2 ≤ (255 : Int)) ∧
 ((-9223372036854775808 : Int) ≤ g.2.2.1 ∧
 g.2.2.1 ≤ (9223372036854775807 : Int)) ∧
 True →
 ((!decide (g.1 = ([] : List Int))) = true →
 Holds (g.1.length ≤ (1048576 : Nat) ∧
 ((10 : Int) :: ([] : List Int)).length = (1 : Nat)) ∧
 Holds ((cutA g.1 ((10 : Int) :: ([] : List Int))).length ≤ (1048576 : Nat)) ∧
 ((!!cutC g.1 ((10 : Int) :: ([] : List Int))) = true →
 (!!cutC g.1 ((10 : Int) :: ([] : List Int))) = true) ∧
 ((!cutC g.1 ((10 : Int) :: ([] : List Int))) = false →
 (!!cutC g.1 ((10 : Int) :: ([] : List Int))) = true) ∧
 ((!cutC g.1 ((10 : Int) :: ([] : List Int)) || !(readB (cutA g.1 ((10 : Int) :: ([] : List Int)))).2) = true →
 ([] : List (Int × Int × Int × Int)) = (parseB x.1).1 ∧
 g.2.2.1 = (parseB x.1).2.1 ∧
 (1 : Int) = (parseB x.1).2.2) ∧
 ((!cutC g.1 ((10 : Int) :: ([] : List Int)) || !(readB (cutA g.1 ((10 : Int) :: ([] : List Int)))).2) = false →
 (g.2.1.length + ((((0 : Int), (0 : Int), (0 : Int), (0 : Int)) :: ([] : List (Int × Int × Int × Int))).set (0 : Nat) ((readB (cutA g.1 ((10 : Int) :: ([] : List Int)))).1.1, (readB (cutA g.1 ((10 : Int) :: ([] : List Int)))).1.2.1, (readB (cutA g.1 ((10 : Int) :: ([] : List Int)))).1.2.2.1, (readB (cutA g.1 ((10 : Int) :: ([] : List Int)))).1.2.2.2)).length ≤ (9223372036854775807 : Nat) ∧
 (g.2.1.length + ((((0 : Int), (0 : Int), (0 : Int), (0 : Int)) :: ([] : List (Int × Int × Int × Int))).set (0 : Nat) ((readB (cutA g.1 ((10 : Int) :: ([] : List Int)))).1.1, (readB (cutA g.1 ((10 : Int) :: ([] : List Int)))).1.2.1, (readB (cutA g.1 ((10 : Int) :: ([] : List Int)))).1.2.2.1, (readB (cutA g.1 ((10 : Int) :: ([] : List Int)))).1.2.2.2)).length + (g.2.1.length + ((((0 : Int), (0 : Int), (0 : Int), (0 : Int)) :: ([] : List (Int × Int × Int × Int))).set (0 : Nat) ((readB (cutA g.1 ((10 : Int) :: ([] : List Int)))).1.1, (readB (cutA g.1 ((10 : Int) :: ([] : List Int)))).1.2.1, (readB (cutA g.1 ((10 : Int) :: ([] : List Int)))).1.2.2.1, (readB (cutA g.1 ((10 : Int) :: ([] : List Int)))).1.2.2.2)).length) / (4 : Nat) + (192 : Nat)) * (32 : Nat) ≤ (281474976710656 : Nat)) ∧
 ((-9223372036854775808 : Int) ≤ g.2.2.1 + (1 : Int) ∧
 g.2.2.1 + (1 : Int) ≤ (9223372036854775807 : Int)) ∧
 (((0 : Int) ≤ g.2.2.1 + (1 : Int) ∧
 (↑(cutB g.1 ((10 : Int) :: ([] : List Int))).length : Int) + (g.2.2.1 + (1 : Int)) ≤ (↑x.1.length : Int) ∧
 (↑(g.2.1 ++ (((0 : Int), (0 : Int), (0 : Int), (0 : Int)) :: ([] : List (Int × Int × Int × Int))).set (0 : Nat) ((readB (cutA g.1 ((10 : Int) :: ([] : List Int)))).1.1, (readB (cutA g.1 ((10 : Int) :: ([] : List Int)))).1.2.1, (readB (cutA g.1 ((10 : Int) :: ([] : List Int)))).1.2.2.1, (readB (cutA g.1 ((10 : Int) :: ([] : List Int)))).1.2.2.2)).length : Int) = g.2.2.1 + (1 : Int) ∧
 parseB x.1 = parseO ((cutB g.1 ((10 : Int) :: ([] : List Int))).length + (1 : Nat)) (cutB g.1 ((10 : Int) :: ([] : List Int))) (g.2.2.1 + (1 : Int)) (g.2.1 ++ (((0 : Int), (0 : Int), (0 : Int), (0 : Int)) :: ([] : List (Int × Int × Int × Int))).set (0 : Nat) ((readB (cutA g.1 ((10 : Int) :: ([] : List Int)))).1.1, (readB (cutA g.1 ((10 : Int) :: ([] : List Int)))).1.2.1, (readB (cutA g.1 ((10 : Int) :: ([] : List Int)))).1.2.2.1, (readB (cutA g.1 ((10 : Int) :: ([] : List Int)))).1.2.2.2))) ∧
 (cutB g.1 ((10 : Int) :: ([] : List Int))).length < g.1.length) ∧
 (RR (cutB g.1 ((10 : Int) :: ([] : List Int))) ∧
 True ∧
 g.2.2.1 + (1 : Int) = g.2.2.1 + (1 : Int) ∧
 True) ∧
 (g.2.1 ++ (((0 : Int), (0 : Int), (0 : Int), (0 : Int)) :: ([] : List (Int × Int × Int × Int))).set (0 : Nat) ((readB (cutA g.1 ((10 : Int) :: ([] : List Int)))).1.1, (readB (cutA g.1 ((10 : Int) :: ([] : List Int)))).1.2.1, (readB (cutA g.1 ((10 : Int) :: ([] : List Int)))).1.2.2.1, (readB (cutA g.1 ((10 : Int) :: ([] : List Int)))).1.2.2.2) = g.2.1 ++ (((0 : Int), (0 : Int), (0 : Int), (0 : Int)) :: ([] : List (Int × Int × Int × Int))).set (0 : Nat) ((readB (cutA g.1 ((10 : Int) :: ([] : List Int)))).1.1, (readB (cutA g.1 ((10 : Int) :: ([] : List Int)))).1.2.1, (readB (cutA g.1 ((10 : Int) :: ([] : List Int)))).1.2.2.1, (readB (cutA g.1 ((10 : Int) :: ([] : List Int)))).1.2.2.2) ∧
 True) ∧
 True)) ∧
 ((!decide (g.1 = ([] : List Int))) = false →
 g.2.1 = (parseB x.1).1 ∧
 (0 : Int) = (parseB x.1).2.1 ∧
 (0 : Int) = (parseB x.1).2.2)

theorem E_parse_eq (x : HL (cParse : Ctr).as) : vc (fx_parse x) 1 6 Tryd.f6 (cParse) x = E_parse x := by kernel_rfl

def E_zprint (x : List (Int × Int × Int × Int) × Unit) : Prop := ((((0 : Int) ≤ (0 : Int) ∧
 (0 : Int) ≤ (↑x.1.length : Int) ∧
 (List.take (Int.toNat (0 : Int)) x.1).all okK = true ∧
 ([] : List Int) = (List.map (fun o ↦ txtK o ++ (10 : Int) :: ([] : List Int)) (List.take (Int.toNat (0 : Int)) x.1)).flatten) ∧
 True) ∧
 (RR ([] : List Int) ∧
 x.1 = x.1 ∧
 RR (↑x.1.length : Int) ∧
 RR (0 : Int) ∧
 True) ∧
 True ∧
 True) ∧
 ∀ (g : List Int × Int × Unit), (0 : Int) ≤ g.2.1 ∧
 g.2.1 ≤ (↑x.1.length : Int) ∧
 (List.take g.2.1.toNat x.1).all okK = true ∧
 g.1 = (List.map (fun o ↦ txtK o ++ (10 : Int) :: ([] : List Int)) (List.take g.2.1.toNat x.1)).flatten →
 (g.1.length ≤ (9223372036854775807 : Nat) ∧
 ∀ (b : Int), b ∈ g.1 →
 (0 : Int) ≤ b ∧
 b ≤ (255 : Int)) ∧
 ((-9223372036854775808 : Int) ≤ g.2.1 ∧
 g.2.1 ≤ (9223372036854775807 : Int)) ∧
 True →
 (decide (g.2.1 < (↑x.1.length : Int)) = true →
 ((0 : Int) ≤ g.2.1 ∧
 g.2.1 < (↑x.1.length : Int)) ∧
 ((-9223372036854775808 : Int) ≤ (x.1.getD g.2.1.toNat ((0 : Int), (0 : Int), (0 : Int), (0 : Int))).2.2.2 ∧
 (x.1.getD g.2.1.toNat ((0 : Int), (0 : Int), (0 : Int), (0 : Int))).2.2.2 ≤ (9223372036854775807 : Int)) ∧
 (((x.1.getD g.2.1.toNat ((0 : Int), (0 : Int), (0 : Int), (0 : Int))).1 == (1 : Int)) = true →
 ((!decide ((x.1.getD g.2.1.toNat ((0 : Int), (0 : Int), (0 : Int), (0 : Int))).2.2.2 < (0 : Int))) = true →
 (!decide ((x.1.getD g.2.1.toNat ((0 : Int), (0 : Int), (0 : Int), (0 : Int))).2.2.2 < (0 : Int))) = true) ∧
 ((!decide ((x.1.getD g.2.1.toNat ((0 : Int), (0 : Int), (0 : Int), (0 : Int))).2.2.2 < (0 : Int))) = true →
 (!decide ((x.1.getD g.2.1.toNat ((0 : Int), (0 : Int), (0 : Int), (0 : Int))).2.2.2 < (0 : Int))) = true) ∧
 ((!decide ((x.1.getD g.2.1.toNat ((0 : Int), (0 : Int), (0 : Int), (0 : Int))).2.2.2 < (0 : Int))) = true →
 (!decide ((x.1.getD g.2.1.toNat ((0 : Int), (0 : Int), (0 : Int), (0 : Int))).2.2.2 < (0 : Int))) = true) ∧
 (decide ((x.1.getD g.2.1.toNat ((0 : Int), (0 : Int), (0 : Int), (0 : Int))).2.2.2 < (0 : Int)) = false →
 (!decide ((x.1.getD g.2.1.toNat ((0 : Int), (0 : Int), (0 : Int), (0 : Int))).2.2.2 < (0 : Int))) = true) ∧
 ((decide ((x.1.getD g.2.1.toNat ((0 : Int), (0 : Int), (0 : Int), (0 : Int))).2.2.2 < (0 : Int)) || decide ((1099511627776 : Int) < (x.1.getD g.2.1.toNat ((0 : Int), (0 : Int), (0 : Int), (0 : Int))).2.2.2)) = true →
 ([] : List Int) = (printB x.1).1 ∧
 (2 : Int) = (printB x.1).2) ∧
 ((decide ((x.1.getD g.2.1.toNat ((0 : Int), (0 : Int), (0 : Int), (0 : Int))).2.2.2 < (0 : Int)) || decide ((1099511627776 : Int) < (x.1.getD g.2.1.toNat ((0 : Int), (0 : Int), (0 : Int), (0 : Int))).2.2.2)) = false →
 ((105 : Int) :: List.map._f (fun b ↦ (↑b.toNat : Int)) ((110 : UInt8) :: ([] : List UInt8)) (List.rec ⟨([] : List Int), PUnit.unit⟩ (fun head tail tail_ih ↦ ⟨List.map._f (fun b ↦ (↑b.toNat : Int)) (head :: tail) tail_ih, tail_ih⟩) ([] : List UInt8))).length + ((32 : Int) :: ([] : List Int)).length ≤ (9223372036854775807 : Nat) ∧
 Holds ((0 : Int) ≤ (x.1.getD g.2.1.toNat ((0 : Int), (0 : Int), (0 : Int), (0 : Int))).2.2.2 ∧
 (x.1.getD g.2.1.toNat ((0 : Int), (0 : Int), (0 : Int), (0 : Int))).2.2.2 ≤ (1099511627776 : Int)) ∧
 ((105 : Int) :: List.map._f (fun b ↦ (↑b.toNat : Int)) ((110 : UInt8) :: ([] : List UInt8)) (List.rec ⟨([] : List Int), PUnit.unit⟩ (fun head tail tail_ih ↦ ⟨List.map._f (fun b ↦ (↑b.toNat : Int)) (head :: tail) tail_ih, tail_ih⟩) ([] : List UInt8)) ++ (32 : Int) :: ([] : List Int)).length + (dec (x.1.getD g.2.1.toNat ((0 : Int), (0 : Int), (0 : Int), (0 : Int))).2.2.2).length ≤ (9223372036854775807 : Nat) ∧
 ((105 : Int) :: List.map._f (fun b ↦ (↑b.toNat : Int)) ((110 : UInt8) :: ([] : List UInt8)) (List.rec ⟨([] : List Int), PUnit.unit⟩ (fun head tail tail_ih ↦ ⟨List.map._f (fun b ↦ (↑b.toNat : Int)) (head :: tail) tail_ih, tail_ih⟩) ([] : List UInt8)) ++ (32 : Int) :: ([] : List Int) ++ dec (x.1.getD g.2.1.toNat ((0 : Int), (0 : Int), (0 : Int), (0 : Int))).2.2.2).length + ((10 : Int) :: ([] : List Int)).length ≤ (9223372036854775807 : Nat) ∧
 g.1.length + ((105 : Int) :: List.map._f (fun b ↦ (↑b.toNat : Int)) ((110 : UInt8) :: ([] : List UInt8)) (List.rec ⟨([] : List Int), PUnit.unit⟩ (fun head tail tail_ih ↦ ⟨List.map._f (fun b ↦ (↑b.toNat : Int)) (head :: tail) tail_ih, tail_ih⟩) ([] : List UInt8)) ++ (32 : Int) :: ([] : List Int) ++ dec (x.1.getD g.2.1.toNat ((0 : Int), (0 : Int), (0 : Int), (0 : Int))).2.2.2 ++ (10 : Int) :: ([] : List Int)).length ≤ (9223372036854775807 : Nat) ∧
 ((-9223372036854775808 : Int) ≤ g.2.1 + (1 : Int) ∧
 g.2.1 + (1 : Int) ≤ (9223372036854775807 : Int)) ∧
 (((0 : Int) ≤ g.2.1 + (1 : Int) ∧
 g.2.1 + (1 : Int) ≤ (↑x.1.length : Int) ∧
 (List.take (g.2.1 + (1 : Int)).toNat x.1).all okK = true ∧
 g.1 ++ ((105 : Int) :: List.map._f (fun b ↦ (↑b.toNat : Int)) ((110 : UInt8) :: ([] : List UInt8)) (List.rec ⟨([] : List Int), PUnit.unit⟩ (fun head tail tail_ih ↦ ⟨List.map._f (fun b ↦ (↑b.toNat : Int)) (head :: tail) tail_ih, tail_ih⟩) ([] : List UInt8)) ++ (32 : Int) :: ([] : List Int) ++ dec (x.1.getD g.2.1.toNat ((0 : Int), (0 : Int), (0 : Int), (0 : Int))).2.2.2 ++ (10 : Int) :: ([] : List Int)) = (List.map (fun o ↦ txtK o ++ (10 : Int) :: ([] : List Int)) (List.take (g.2.1 + (1 : Int)).toNat x.1)).flatten) ∧
 ((↑x.1.length : Int) - (g.2.1 + (1 : Int))).toNat < ((↑x.1.length : Int) - g.2.1).toNat) ∧
 (g.1 ++ ((105 : Int) :: List.map._f (fun b ↦ (↑b.toNat : Int)) ((110 : UInt8) :: ([] : List UInt8)) (List.rec ⟨([] : List Int), PUnit.unit⟩ (fun head tail tail_ih ↦ ⟨List.map._f (fun b ↦ (↑b.toNat : Int)) (head :: tail) tail_ih, tail_ih⟩) ([] : List UInt8)) ++ (32 : Int) :: ([] : List Int) ++ dec (x.1.getD g.2.1.toNat ((0 : Int), (0 : Int), (0 : Int), (0 : Int))).2.2.2 ++ (10 : Int) :: ([] : List Int)) = g.1 ++ ((105 : Int) :: List.map._f (fun b ↦ (↑b.toNat : Int)) ((110 : UInt8) :: ([] : List UInt8)) (List.rec ⟨([] : List Int), PUnit.unit⟩ (fun head tail tail_ih ↦ ⟨List.map._f (fun b ↦ (↑b.toNat : Int)) (head :: tail) tail_ih, tail_ih⟩) ([] : List UInt8)) ++ (32 : Int) :: ([] : List Int) ++ dec (x.1.getD g.2.1.toNat ((0 : Int), (0 : Int), (0 : Int), (0 : Int))).2.2.2 ++ (10 : Int) :: ([] : List Int)) ∧
 x.1 = x.1 ∧
 RR (↑x.1.length : Int) ∧
 g.2.1 + (1 : Int) = g.2.1 + (1 : Int) ∧
 True) ∧
 True ∧
 True)) ∧
 (((x.1.getD g.2.1.toNat ((0 : Int), (0 : Int), (0 : Int), (0 : Int))).1 == (1 : Int)) = false →
 (((x.1.getD g.2.1.toNat ((0 : Int), (0 : Int), (0 : Int), (0 : Int))).1 == (2 : Int)) = true →
 ((!decide ((x.1.getD g.2.1.toNat ((0 : Int), (0 : Int), (0 : Int), (0 : Int))).2.1 < (0 : Int))) = true →
 (!decide ((x.1.getD g.2.1.toNat ((0 : Int), (0 : Int), (0 : Int), (0 : Int))).2.1 < (0 : Int))) = true) ∧
 ((!decide ((x.1.getD g.2.1.toNat ((0 : Int), (0 : Int), (0 : Int), (0 : Int))).2.1 < (0 : Int))) = true →
 (!decide ((x.1.getD g.2.1.toNat ((0 : Int), (0 : Int), (0 : Int), (0 : Int))).2.1 < (0 : Int))) = true) ∧
 ((!decide ((x.1.getD g.2.1.toNat ((0 : Int), (0 : Int), (0 : Int), (0 : Int))).2.1 < (0 : Int))) = true →
 (!decide ((x.1.getD g.2.1.toNat ((0 : Int), (0 : Int), (0 : Int), (0 : Int))).2.1 < (0 : Int))) = true) ∧
 (decide ((x.1.getD g.2.1.toNat ((0 : Int), (0 : Int), (0 : Int), (0 : Int))).2.1 < (0 : Int)) = false →
 (!decide ((x.1.getD g.2.1.toNat ((0 : Int), (0 : Int), (0 : Int), (0 : Int))).2.1 < (0 : Int))) = true) ∧
 ((decide ((x.1.getD g.2.1.toNat ((0 : Int), (0 : Int), (0 : Int), (0 : Int))).2.1 < (0 : Int)) || decide ((1099511627776 : Int) < (x.1.getD g.2.1.toNat ((0 : Int), (0 : Int), (0 : Int), (0 : Int))).2.1)) = true →
 ([] : List Int) = (printB x.1).1 ∧
 (2 : Int) = (printB x.1).2) ∧
 ((decide ((x.1.getD g.2.1.toNat ((0 : Int), (0 : Int), (0 : Int), (0 : Int))).2.1 < (0 : Int)) || decide ((1099511627776 : Int) < (x.1.getD g.2.1.toNat ((0 : Int), (0 : Int), (0 : Int), (0 : Int))).2.1)) = false →
 ((114 : Int) :: List.map._f (fun b ↦ (↑b.toNat : Int)) ((117 : UInt8) :: (110 : UInt8) :: ([] : List UInt8)) (List.rec ⟨([] : List Int), PUnit.unit⟩ (fun head tail tail_ih ↦ ⟨List.map._f (fun b ↦ (↑b.toNat : Int)) (head :: tail) tail_ih, tail_ih⟩) ((110 : UInt8) :: ([] : List UInt8)))).length + ((32 : Int) :: ([] : List Int)).length ≤ (9223372036854775807 : Nat) ∧
 Holds ((0 : Int) ≤ (x.1.getD g.2.1.toNat ((0 : Int), (0 : Int), (0 : Int), (0 : Int))).2.1 ∧
 (x.1.getD g.2.1.toNat ((0 : Int), (0 : Int), (0 : Int), (0 : Int))).2.1 ≤ (1099511627776 : Int)) ∧
 ((114 : Int) :: List.map._f (fun b ↦ (↑b.toNat : Int)) ((117 : UInt8) :: (110 : UInt8) :: ([] : List UInt8)) (List.rec ⟨([] : List Int), PUnit.unit⟩ (fun head tail tail_ih ↦ ⟨List.map._f (fun b ↦ (↑b.toNat : Int)) (head :: tail) tail_ih, tail_ih⟩) ((110 : UInt8) :: ([] : List UInt8))) ++ (32 : Int) :: ([] : List Int)).length + (dec (x.1.getD g.2.1.toNat ((0 : Int), (0 : Int), (0 : Int), (0 : Int))).2.1).length ≤ (9223372036854775807 : Nat) ∧
 ((114 : Int) :: List.map._f (fun b ↦ (↑b.toNat : Int)) ((117 : UInt8) :: (110 : UInt8) :: ([] : List UInt8)) (List.rec ⟨([] : List Int), PUnit.unit⟩ (fun head tail tail_ih ↦ ⟨List.map._f (fun b ↦ (↑b.toNat : Int)) (head :: tail) tail_ih, tail_ih⟩) ((110 : UInt8) :: ([] : List UInt8))) ++ (32 : Int) :: ([] : List Int) ++ dec (x.1.getD g.2.1.toNat ((0 : Int), (0 : Int), (0 : Int), (0 : Int))).2.1).length + ((10 : Int) :: ([] : List Int)).length ≤ (9223372036854775807 : Nat) ∧
 g.1.length + ((114 : Int) :: List.map._f (fun b ↦ (↑b.toNat : Int)) ((117 : UInt8) :: (110 : UInt8) :: ([] : List UInt8)) (List.rec ⟨([] : List Int), PUnit.unit⟩ (fun head tail tail_ih ↦ ⟨List.map._f (fun b ↦ (↑b.toNat : Int)) (head :: tail) tail_ih, tail_ih⟩) ((110 : UInt8) :: ([] : List UInt8))) ++ (32 : Int) :: ([] : List Int) ++ dec (x.1.getD g.2.1.toNat ((0 : Int), (0 : Int), (0 : Int), (0 : Int))).2.1 ++ (10 : Int) :: ([] : List Int)).length ≤ (9223372036854775807 : Nat) ∧
 ((-9223372036854775808 : Int) ≤ g.2.1 + (1 : Int) ∧
 g.2.1 + (1 : Int) ≤ (9223372036854775807 : Int)) ∧
 (((0 : Int) ≤ g.2.1 + (1 : Int) ∧
 g.2.1 + (1 : Int) ≤ (↑x.1.length : Int) ∧
 (List.take (g.2.1 + (1 : Int)).toNat x.1).all okK = true ∧
 g.1 ++ ((114 : Int) :: List.map._f (fun b ↦ (↑b.toNat : Int)) ((117 : UInt8) :: (110 : UInt8) :: ([] : List UInt8)) (List.rec ⟨([] : List Int), PUnit.unit⟩ (fun head tail tail_ih ↦ ⟨List.map._f (fun b ↦ (↑b.toNat : Int)) (head :: tail) tail_ih, tail_ih⟩) ((110 : UInt8) :: ([] : List UInt8))) ++ (32 : Int) :: ([] : List Int) ++ dec (x.1.getD g.2.1.toNat ((0 : Int), (0 : Int), (0 : Int), (0 : Int))).2.1 ++ (10 : Int) :: ([] : List Int)) = (List.map (fun o ↦ txtK o ++ (10 : Int) :: ([] : List Int)) (List.take (g.2.1 + (1 : Int)).toNat x.1)).flatten) ∧
 ((↑x.1.length : Int) - (g.2.1 + (1 : Int))).toNat < ((↑x.1.length : Int) - g.2.1).toNat) ∧
 (g.1 ++ ((114 : Int) :: List.map._f (fun b ↦ (↑b.toNat : Int)) ((117 : UInt8) :: (110 : UInt8) :: ([] : List UInt8)) (List.rec ⟨([] : List Int), PUnit.unit⟩ (fun head tail tail_ih ↦ ⟨List.map._f (fun b ↦ (↑b.toNat : Int)) (head :: tail) tail_ih, tail_ih⟩) ((110 : UInt8) :: ([] : List UInt8))) ++ (32 : Int) :: ([] : List Int) ++ dec (x.1.getD g.2.1.toNat ((0 : Int), (0 : Int), (0 : Int), (0 : Int))).2.1 ++ (10 : Int) :: ([] : List Int)) = g.1 ++ ((114 : Int) :: List.map._f (fun b ↦ (↑b.toNat : Int)) ((117 : UInt8) :: (110 : UInt8) :: ([] : List UInt8)) (List.rec ⟨([] : List Int), PUnit.unit⟩ (fun head tail tail_ih ↦ ⟨List.map._f (fun b ↦ (↑b.toNat : Int)) (head :: tail) tail_ih, tail_ih⟩) ((110 : UInt8) :: ([] : List UInt8))) ++ (32 : Int) :: ([] : List Int) ++ dec (x.1.getD g.2.1.toNat ((0 : Int), (0 : Int), (0 : Int), (0 : Int))).2.1 ++ (10 : Int) :: ([] : List Int)) ∧
 x.1 = x.1 ∧
 RR (↑x.1.length : Int) ∧
 g.2.1 + (1 : Int) = g.2.1 + (1 : Int) ∧
 True) ∧
 True ∧
 True)) ∧
 (((x.1.getD g.2.1.toNat ((0 : Int), (0 : Int), (0 : Int), (0 : Int))).1 == (2 : Int)) = false →
 (((x.1.getD g.2.1.toNat ((0 : Int), (0 : Int), (0 : Int), (0 : Int))).1 == (3 : Int)) = true →
 ((!decide ((x.1.getD g.2.1.toNat ((0 : Int), (0 : Int), (0 : Int), (0 : Int))).2.2.1 < (0 : Int))) = true →
 (!decide ((x.1.getD g.2.1.toNat ((0 : Int), (0 : Int), (0 : Int), (0 : Int))).2.2.1 < (0 : Int))) = true) ∧
 ((!decide ((x.1.getD g.2.1.toNat ((0 : Int), (0 : Int), (0 : Int), (0 : Int))).2.2.1 < (0 : Int))) = true →
 (!decide ((x.1.getD g.2.1.toNat ((0 : Int), (0 : Int), (0 : Int), (0 : Int))).2.2.1 < (0 : Int))) = true) ∧
 ((!decide ((x.1.getD g.2.1.toNat ((0 : Int), (0 : Int), (0 : Int), (0 : Int))).2.2.1 < (0 : Int))) = true →
 (!decide ((x.1.getD g.2.1.toNat ((0 : Int), (0 : Int), (0 : Int), (0 : Int))).2.2.1 < (0 : Int))) = true) ∧
 (decide ((x.1.getD g.2.1.toNat ((0 : Int), (0 : Int), (0 : Int), (0 : Int))).2.2.1 < (0 : Int)) = false →
 (!decide ((x.1.getD g.2.1.toNat ((0 : Int), (0 : Int), (0 : Int), (0 : Int))).2.2.1 < (0 : Int))) = true) ∧
 ((decide ((x.1.getD g.2.1.toNat ((0 : Int), (0 : Int), (0 : Int), (0 : Int))).2.2.1 < (0 : Int)) || decide ((1099511627776 : Int) < (x.1.getD g.2.1.toNat ((0 : Int), (0 : Int), (0 : Int), (0 : Int))).2.2.1)) = true →
 ([] : List Int) = (printB x.1).1 ∧
 (2 : Int) = (printB x.1).2) ∧
 ((decide ((x.1.getD g.2.1.toNat ((0 : Int), (0 : Int), (0 : Int), (0 : Int))).2.2.1 < (0 : Int)) || decide ((1099511627776 : Int) < (x.1.getD g.2.1.toNat ((0 : Int), (0 : Int), (0 : Int), (0 : Int))).2.2.1)) = false →
 ((114 : Int) :: List.map._f (fun b ↦ (↑b.toNat : Int)) ((101 : UInt8) :: (97 : UInt8) :: (100 : UInt8) :: ([] : List UInt8)) (List.rec ⟨([] : List Int), PUnit.unit⟩ (fun head tail tail_ih ↦ ⟨List.map._f (fun b ↦ (↑b.toNat : Int)) (head :: tail) tail_ih, tail_ih⟩) ((97 : UInt8) :: (100 : UInt8) :: ([] : List UInt8)))).length + ((32 : Int) :: ([] : List Int)).length ≤ (9223372036854775807 : Nat) ∧
 Holds ((0 : Int) ≤ (x.1.getD g.2.1.toNat ((0 : Int), (0 : Int), (0 : Int), (0 : Int))).2.2.1 ∧
 (x.1.getD g.2.1.toNat ((0 : Int), (0 : Int), (0 : Int), (0 : Int))).2.2.1 ≤ (1099511627776 : Int)) ∧
 ((114 : Int) :: List.map._f (fun b ↦ (↑b.toNat : Int)) ((101 : UInt8) :: (97 : UInt8) :: (100 : UInt8) :: ([] : List UInt8)) (List.rec ⟨([] : List Int), PUnit.unit⟩ (fun head tail tail_ih ↦ ⟨List.map._f (fun b ↦ (↑b.toNat : Int)) (head :: tail) tail_ih, tail_ih⟩) ((97 : UInt8) :: (100 : UInt8) :: ([] : List UInt8))) ++ (32 : Int) :: ([] : List Int)).length + (dec (x.1.getD g.2.1.toNat ((0 : Int), (0 : Int), (0 : Int), (0 : Int))).2.2.1).length ≤ (9223372036854775807 : Nat) ∧
 ((114 : Int) :: List.map._f (fun b ↦ (↑b.toNat : Int)) ((101 : UInt8) :: (97 : UInt8) :: (100 : UInt8) :: ([] : List UInt8)) (List.rec ⟨([] : List Int), PUnit.unit⟩ (fun head tail tail_ih ↦ ⟨List.map._f (fun b ↦ (↑b.toNat : Int)) (head :: tail) tail_ih, tail_ih⟩) ((97 : UInt8) :: (100 : UInt8) :: ([] : List UInt8))) ++ (32 : Int) :: ([] : List Int) ++ dec (x.1.getD g.2.1.toNat ((0 : Int), (0 : Int), (0 : Int), (0 : Int))).2.2.1).length + ((10 : Int) :: ([] : List Int)).length ≤ (9223372036854775807 : Nat) ∧
 g.1.length + ((114 : Int) :: List.map._f (fun b ↦ (↑b.toNat : Int)) ((101 : UInt8) :: (97 : UInt8) :: (100 : UInt8) :: ([] : List UInt8)) (List.rec ⟨([] : List Int), PUnit.unit⟩ (fun head tail tail_ih ↦ ⟨List.map._f (fun b ↦ (↑b.toNat : Int)) (head :: tail) tail_ih, tail_ih⟩) ((97 : UInt8) :: (100 : UInt8) :: ([] : List UInt8))) ++ (32 : Int) :: ([] : List Int) ++ dec (x.1.getD g.2.1.toNat ((0 : Int), (0 : Int), (0 : Int), (0 : Int))).2.2.1 ++ (10 : Int) :: ([] : List Int)).length ≤ (9223372036854775807 : Nat) ∧
 ((-9223372036854775808 : Int) ≤ g.2.1 + (1 : Int) ∧
 g.2.1 + (1 : Int) ≤ (9223372036854775807 : Int)) ∧
 (((0 : Int) ≤ g.2.1 + (1 : Int) ∧
 g.2.1 + (1 : Int) ≤ (↑x.1.length : Int) ∧
 (List.take (g.2.1 + (1 : Int)).toNat x.1).all okK = true ∧
 g.1 ++ ((114 : Int) :: List.map._f (fun b ↦ (↑b.toNat : Int)) ((101 : UInt8) :: (97 : UInt8) :: (100 : UInt8) :: ([] : List UInt8)) (List.rec ⟨([] : List Int), PUnit.unit⟩ (fun head tail tail_ih ↦ ⟨List.map._f (fun b ↦ (↑b.toNat : Int)) (head :: tail) tail_ih, tail_ih⟩) ((97 : UInt8) :: (100 : UInt8) :: ([] : List UInt8))) ++ (32 : Int) :: ([] : List Int) ++ dec (x.1.getD g.2.1.toNat ((0 : Int), (0 : Int), (0 : Int), (0 : Int))).2.2.1 ++ (10 : Int) :: ([] : List Int)) = (List.map (fun o ↦ txtK o ++ (10 : Int) :: ([] : List Int)) (List.take (g.2.1 + (1 : Int)).toNat x.1)).flatten) ∧
 ((↑x.1.length : Int) - (g.2.1 + (1 : Int))).toNat < ((↑x.1.length : Int) - g.2.1).toNat) ∧
 (g.1 ++ ((114 : Int) :: List.map._f (fun b ↦ (↑b.toNat : Int)) ((101 : UInt8) :: (97 : UInt8) :: (100 : UInt8) :: ([] : List UInt8)) (List.rec ⟨([] : List Int), PUnit.unit⟩ (fun head tail tail_ih ↦ ⟨List.map._f (fun b ↦ (↑b.toNat : Int)) (head :: tail) tail_ih, tail_ih⟩) ((97 : UInt8) :: (100 : UInt8) :: ([] : List UInt8))) ++ (32 : Int) :: ([] : List Int) ++ dec (x.1.getD g.2.1.toNat ((0 : Int), (0 : Int), (0 : Int), (0 : Int))).2.2.1 ++ (10 : Int) :: ([] : List Int)) = g.1 ++ ((114 : Int) :: List.map._f (fun b ↦ (↑b.toNat : Int)) ((101 : UInt8) :: (97 : UInt8) :: (100 : UInt8) :: ([] : List UInt8)) (List.rec ⟨([] : List Int), PUnit.unit⟩ (fun head tail tail_ih ↦ ⟨List.map._f (fun b ↦ (↑b.toNat : Int)) (head :: tail) tail_ih, tail_ih⟩) ((97 : UInt8) :: (100 : UInt8) :: ([] : List UInt8))) ++ (32 : Int) :: ([] : List Int) ++ dec (x.1.getD g.2.1.toNat ((0 : Int), (0 : Int), (0 : Int), (0 : Int))).2.2.1 ++ (10 : Int) :: ([] : List Int)) ∧
 x.1 = x.1 ∧
 RR (↑x.1.length : Int) ∧
 g.2.1 + (1 : Int) = g.2.1 + (1 : Int) ∧
 True) ∧
 True ∧
 True)) ∧
 (((x.1.getD g.2.1.toNat ((0 : Int), (0 : Int), (0 : Int), (0 : Int))).1 == (3 : Int)) = false →
 (((x.1.getD g.2.1.toNat ((0 : Int), (0 : Int), (0 : Int), (0 : Int))).1 == (4 : Int)) = true →
 ((!decide ((x.1.getD g.2.1.toNat ((0 : Int), (0 : Int), (0 : Int), (0 : Int))).2.1 < (0 : Int))) = true →
 (!decide ((x.1.getD g.2.1.toNat ((0 : Int), (0 : Int), (0 : Int), (0 : Int))).2.1 < (0 : Int))) = true) ∧
 ((!decide ((x.1.getD g.2.1.toNat ((0 : Int), (0 : Int), (0 : Int), (0 : Int))).2.1 < (0 : Int))) = true →
 (!decide ((x.1.getD g.2.1.toNat ((0 : Int), (0 : Int), (0 : Int), (0 : Int))).2.1 < (0 : Int))) = true) ∧
 ((!decide ((x.1.getD g.2.1.toNat ((0 : Int), (0 : Int), (0 : Int), (0 : Int))).2.1 < (0 : Int))) = true →
 (!decide ((x.1.getD g.2.1.toNat ((0 : Int), (0 : Int), (0 : Int), (0 : Int))).2.1 < (0 : Int))) = true) ∧
 (decide ((x.1.getD g.2.1.toNat ((0 : Int), (0 : Int), (0 : Int), (0 : Int))).2.1 < (0 : Int)) = false →
 (!decide ((x.1.getD g.2.1.toNat ((0 : Int), (0 : Int), (0 : Int), (0 : Int))).2.1 < (0 : Int))) = true) ∧
 ((decide ((x.1.getD g.2.1.toNat ((0 : Int), (0 : Int), (0 : Int), (0 : Int))).2.1 < (0 : Int)) || decide ((1099511627776 : Int) < (x.1.getD g.2.1.toNat ((0 : Int), (0 : Int), (0 : Int), (0 : Int))).2.1)) = true →
 ([] : List Int) = (printB x.1).1 ∧
 (2 : Int) = (printB x.1).2) ∧
 ((decide ((x.1.getD g.2.1.toNat ((0 : Int), (0 : Int), (0 : Int), (0 : Int))).2.1 < (0 : Int)) || decide ((1099511627776 : Int) < (x.1.getD g.2.1.toNat ((0 : Int), (0 : Int), (0 : Int), (0 : Int))).2.1)) = false →
 ((115 : Int) :: List.map._f (fun b ↦ (↑b.toNat : Int)) ((97 : UInt8) :: (118 : UInt8) :: (101 : UInt8) :: ([] : List UInt8)) (List.rec ⟨([] : List Int), PUnit.unit⟩ (fun head tail tail_ih ↦ ⟨List.map._f (fun b ↦ (↑b.toNat : Int)) (head :: tail) tail_ih, tail_ih⟩) ((118 : UInt8) :: (101 : UInt8) :: ([] : List UInt8)))).length + ((32 : Int) :: ([] : List Int)).length ≤ (9223372036854775807 : Nat) ∧
 Holds ((0 : Int) ≤ (x.1.getD g.2.1.toNat ((0 : Int), (0 : Int), (0 : Int), (0 : Int))).2.1 ∧
 (x.1.getD g.2.1.toNat ((0 : Int), (0 : Int), (0 : Int), (0 : Int))).2.1 ≤ (1099511627776 : Int)) ∧
 ((115 : Int) :: List.map._f (fun b ↦ (↑b.toNat : Int)) ((97 : UInt8) :: (118 : UInt8) :: (101 : UInt8) :: ([] : List UInt8)) (List.rec ⟨([] : List Int), PUnit.unit⟩ (fun head tail tail_ih ↦ ⟨List.map._f (fun b ↦ (↑b.toNat : Int)) (head :: tail) tail_ih, tail_ih⟩) ((118 : UInt8) :: (101 : UInt8) :: ([] : List UInt8))) ++ (32 : Int) :: ([] : List Int)).length + (dec (x.1.getD g.2.1.toNat ((0 : Int), (0 : Int), (0 : Int), (0 : Int))).2.1).length ≤ (9223372036854775807 : Nat) ∧
 ((115 : Int) :: List.map._f (fun b ↦ (↑b.toNat : Int)) ((97 : UInt8) :: (118 : UInt8) :: (101 : UInt8) :: ([] : List UInt8)) (List.rec ⟨([] : List Int), PUnit.unit⟩ (fun head tail tail_ih ↦ ⟨List.map._f (fun b ↦ (↑b.toNat : Int)) (head :: tail) tail_ih, tail_ih⟩) ((118 : UInt8) :: (101 : UInt8) :: ([] : List UInt8))) ++ (32 : Int) :: ([] : List Int) ++ dec (x.1.getD g.2.1.toNat ((0 : Int), (0 : Int), (0 : Int), (0 : Int))).2.1).length + ((10 : Int) :: ([] : List Int)).length ≤ (9223372036854775807 : Nat) ∧
 g.1.length + ((115 : Int) :: List.map._f (fun b ↦ (↑b.toNat : Int)) ((97 : UInt8) :: (118 : UInt8) :: (101 : UInt8) :: ([] : List UInt8)) (List.rec ⟨([] : List Int), PUnit.unit⟩ (fun head tail tail_ih ↦ ⟨List.map._f (fun b ↦ (↑b.toNat : Int)) (head :: tail) tail_ih, tail_ih⟩) ((118 : UInt8) :: (101 : UInt8) :: ([] : List UInt8))) ++ (32 : Int) :: ([] : List Int) ++ dec (x.1.getD g.2.1.toNat ((0 : Int), (0 : Int), (0 : Int), (0 : Int))).2.1 ++ (10 : Int) :: ([] : List Int)).length ≤ (9223372036854775807 : Nat) ∧
 ((-9223372036854775808 : Int) ≤ g.2.1 + (1 : Int) ∧
 g.2.1 + (1 : Int) ≤ (9223372036854775807 : Int)) ∧
 (((0 : Int) ≤ g.2.1 + (1 : Int) ∧
 g.2.1 + (1 : Int) ≤ (↑x.1.length : Int) ∧
 (List.take (g.2.1 + (1 : Int)).toNat x.1).all okK = true ∧
 g.1 ++ ((115 : Int) :: List.map._f (fun b ↦ (↑b.toNat : Int)) ((97 : UInt8) :: (118 : UInt8) :: (101 : UInt8) :: ([] : List UInt8)) (List.rec ⟨([] : List Int), PUnit.unit⟩ (fun head tail tail_ih ↦ ⟨List.map._f (fun b ↦ (↑b.toNat : Int)) (head :: tail) tail_ih, tail_ih⟩) ((118 : UInt8) :: (101 : UInt8) :: ([] : List UInt8))) ++ (32 : Int) :: ([] : List Int) ++ dec (x.1.getD g.2.1.toNat ((0 : Int), (0 : Int), (0 : Int), (0 : Int))).2.1 ++ (10 : Int) :: ([] : List Int)) = (List.map (fun o ↦ txtK o ++ (10 : Int) :: ([] : List Int)) (List.take (g.2.1 + (1 : Int)).toNat x.1)).flatten) ∧
 ((↑x.1.length : Int) - (g.2.1 + (1 : Int))).toNat < ((↑x.1.length : Int) - g.2.1).toNat) ∧
 (g.1 ++ ((115 : Int) :: List.map._f (fun b ↦ (↑b.toNat : Int)) ((97 : UInt8) :: (118 : UInt8) :: (101 : UInt8) :: ([] : List UInt8)) (List.rec ⟨([] : List Int), PUnit.unit⟩ (fun head tail tail_ih ↦ ⟨List.map._f (fun b ↦ (↑b.toNat : Int)) (head :: tail) tail_ih, tail_ih⟩) ((118 : UInt8) :: (101 : UInt8) :: ([] : List UInt8))) ++ (32 : Int) :: ([] : List Int) ++ dec (x.1.getD g.2.1.toNat ((0 : Int), (0 : Int), (0 : Int), (0 : Int))).2.1 ++ (10 : Int) :: ([] : List Int)) = g.1 ++ ((115 : Int) :: List.map._f (fun b ↦ (↑b.toNat : Int)) ((97 : UInt8) :: (118 : UInt8) :: (101 : UInt8) :: ([] : List UInt8)) (List.rec ⟨([] : List Int), PUnit.unit⟩ (fun head tail tail_ih ↦ ⟨List.map._f (fun b ↦ (↑b.toNat : Int)) (head :: tail) tail_ih, tail_ih⟩) ((118 : UInt8) :: (101 : UInt8) :: ([] : List UInt8))) ++ (32 : Int) :: ([] : List Int) ++ dec (x.1.getD g.2.1.toNat ((0 : Int), (0 : Int), (0 : Int), (0 : Int))).2.1 ++ (10 : Int) :: ([] : List Int)) ∧
 x.1 = x.1 ∧
 RR (↑x.1.length : Int) ∧
 g.2.1 + (1 : Int) = g.2.1 + (1 : Int) ∧
 True) ∧
 True ∧
 True)) ∧
 (((x.1.getD g.2.1.toNat ((0 : Int), (0 : Int), (0 : Int), (0 : Int))).1 == (4 : Int)) = false →
 (((x.1.getD g.2.1.toNat ((0 : Int), (0 : Int), (0 : Int), (0 : Int))).1 == (5 : Int)) = true →
 ((!decide ((x.1.getD g.2.1.toNat ((0 : Int), (0 : Int), (0 : Int), (0 : Int))).2.1 < (0 : Int))) = true →
 (!decide ((x.1.getD g.2.1.toNat ((0 : Int), (0 : Int), (0 : Int), (0 : Int))).2.1 < (0 : Int))) = true) ∧
 ((!decide ((x.1.getD g.2.1.toNat ((0 : Int), (0 : Int), (0 : Int), (0 : Int))).2.1 < (0 : Int))) = true →
 (!decide ((x.1.getD g.2.1.toNat ((0 : Int), (0 : Int), (0 : Int), (0 : Int))).2.1 < (0 : Int))) = true) ∧
 ((!decide ((x.1.getD g.2.1.toNat ((0 : Int), (0 : Int), (0 : Int), (0 : Int))).2.1 < (0 : Int))) = true →
 (!decide ((x.1.getD g.2.1.toNat ((0 : Int), (0 : Int), (0 : Int), (0 : Int))).2.1 < (0 : Int))) = true) ∧
 (decide ((x.1.getD g.2.1.toNat ((0 : Int), (0 : Int), (0 : Int), (0 : Int))).2.1 < (0 : Int)) = false →
 (!decide ((x.1.getD g.2.1.toNat ((0 : Int), (0 : Int), (0 : Int), (0 : Int))).2.1 < (0 : Int))) = true) ∧
 ((decide ((x.1.getD g.2.1.toNat ((0 : Int), (0 : Int), (0 : Int), (0 : Int))).2.1 < (0 : Int)) || decide ((1099511627776 : Int) < (x.1.getD g.2.1.toNat ((0 : Int), (0 : Int), (0 : Int), (0 : Int))).2.1)) = true →
 ([] : List Int) = (printB x.1).1 ∧
 (2 : Int) = (printB x.1).2) ∧
 ((decide ((x.1.getD g.2.1.toNat ((0 : Int), (0 : Int), (0 : Int), (0 : Int))).2.1 < (0 : Int)) || decide ((1099511627776 : Int) < (x.1.getD g.2.1.toNat ((0 : Int), (0 : Int), (0 : Int), (0 : Int))).2.1)) = false →
 ((114 : Int) :: List.map._f (fun b ↦ (↑b.toNat : Int)) ((101 : UInt8) :: (115 : UInt8) :: (116 : UInt8) :: (111 : UInt8) :: (114 : UInt8) :: (101 : UInt8) :: ([] : List UInt8)) (List.rec ⟨([] : List Int), PUnit.unit⟩ (fun head tail tail_ih ↦ ⟨List.map._f (fun b ↦ (↑b.toNat : Int)) (head :: tail) tail_ih, tail_ih⟩) ((115 : UInt8) :: (116 : UInt8) :: (111 : UInt8) :: (114 : UInt8) :: (101 : UInt8) :: ([] : List UInt8)))).length + ((32 : Int) :: ([] : List Int)).length ≤ (9223372036854775807 : Nat) ∧
 Holds ((0 : Int) ≤ (x.1.getD g.2.1.toNat ((0 : Int), (0 : Int), (0 : Int), (0 : Int))).2.1 ∧
 (x.1.getD g.2.1.toNat ((0 : Int), (0 : Int), (0 : Int), (0 : Int))).2.1 ≤ (1099511627776 : Int)) ∧
 ((114 : Int) :: List.map._f (fun b ↦ (↑b.toNat : Int)) ((101 : UInt8) :: (115 : UInt8) :: (116 : UInt8) :: (111 : UInt8) :: (114 : UInt8) :: (101 : UInt8) :: ([] : List UInt8)) (List.rec ⟨([] : List Int), PUnit.unit⟩ (fun head tail tail_ih ↦ ⟨List.map._f (fun b ↦ (↑b.toNat : Int)) (head :: tail) tail_ih, tail_ih⟩) ((115 : UInt8) :: (116 : UInt8) :: (111 : UInt8) :: (114 : UInt8) :: (101 : UInt8) :: ([] : List UInt8))) ++ (32 : Int) :: ([] : List Int)).length + (dec (x.1.getD g.2.1.toNat ((0 : Int), (0 : Int), (0 : Int), (0 : Int))).2.1).length ≤ (9223372036854775807 : Nat) ∧
 ((114 : Int) :: List.map._f (fun b ↦ (↑b.toNat : Int)) ((101 : UInt8) :: (115 : UInt8) :: (116 : UInt8) :: (111 : UInt8) :: (114 : UInt8) :: (101 : UInt8) :: ([] : List UInt8)) (List.rec ⟨([] : List Int), PUnit.unit⟩ (fun head tail tail_ih ↦ ⟨List.map._f (fun b ↦ (↑b.toNat : Int)) (head :: tail) tail_ih, tail_ih⟩) ((115 : UInt8) :: (116 : UInt8) :: (111 : UInt8) :: (114 : UInt8) :: (101 : UInt8) :: ([] : List UInt8))) ++ (32 : Int) :: ([] : List Int) ++ dec (x.1.getD g.2.1.toNat ((0 : Int), (0 : Int), (0 : Int), (0 : Int))).2.1).length + ((10 : Int) :: ([] : List Int)).length ≤ (9223372036854775807 : Nat) ∧
 g.1.length + ((114 : Int) :: List.map._f (fun b ↦ (↑b.toNat : Int)) ((101 : UInt8) :: (115 : UInt8) :: (116 : UInt8) :: (111 : UInt8) :: (114 : UInt8) :: (101 : UInt8) :: ([] : List UInt8)) (List.rec ⟨([] : List Int), PUnit.unit⟩ (fun head tail tail_ih ↦ ⟨List.map._f (fun b ↦ (↑b.toNat : Int)) (head :: tail) tail_ih, tail_ih⟩) ((115 : UInt8) :: (116 : UInt8) :: (111 : UInt8) :: (114 : UInt8) :: (101 : UInt8) :: ([] : List UInt8))) ++ (32 : Int) :: ([] : List Int) ++ dec (x.1.getD g.2.1.toNat ((0 : Int), (0 : Int), (0 : Int), (0 : Int))).2.1 ++ (10 : Int) :: ([] : List Int)).length ≤ (9223372036854775807 : Nat) ∧
 ((-9223372036854775808 : Int) ≤ g.2.1 + (1 : Int) ∧
 g.2.1 + (1 : Int) ≤ (9223372036854775807 : Int)) ∧
 (((0 : Int) ≤ g.2.1 + (1 : Int) ∧
 g.2.1 + (1 : Int) ≤ (↑x.1.length : Int) ∧
 (List.take (g.2.1 + (1 : Int)).toNat x.1).all okK = true ∧
 g.1 ++ ((114 : Int) :: List.map._f (fun b ↦ (↑b.toNat : Int)) ((101 : UInt8) :: (115 : UInt8) :: (116 : UInt8) :: (111 : UInt8) :: (114 : UInt8) :: (101 : UInt8) :: ([] : List UInt8)) (List.rec ⟨([] : List Int), PUnit.unit⟩ (fun head tail tail_ih ↦ ⟨List.map._f (fun b ↦ (↑b.toNat : Int)) (head :: tail) tail_ih, tail_ih⟩) ((115 : UInt8) :: (116 : UInt8) :: (111 : UInt8) :: (114 : UInt8) :: (101 : UInt8) :: ([] : List UInt8))) ++ (32 : Int) :: ([] : List Int) ++ dec (x.1.getD g.2.1.toNat ((0 : Int), (0 : Int), (0 : Int), (0 : Int))).2.1 ++ (10 : Int) :: ([] : List Int)) = (List.map (fun o ↦ txtK o ++ (10 : Int) :: ([] : List Int)) (List.take (g.2.1 + (1 : Int)).toNat x.1)).flatten) ∧
 ((↑x.1.length : Int) - (g.2.1 + (1 : Int))).toNat < ((↑x.1.length : Int) - g.2.1).toNat) ∧
 (g.1 ++ ((114 : Int) :: List.map._f (fun b ↦ (↑b.toNat : Int)) ((101 : UInt8) :: (115 : UInt8) :: (116 : UInt8) :: (111 : UInt8) :: (114 : UInt8) :: (101 : UInt8) :: ([] : List UInt8)) (List.rec ⟨([] : List Int), PUnit.unit⟩ (fun head tail tail_ih ↦ ⟨List.map._f (fun b ↦ (↑b.toNat : Int)) (head :: tail) tail_ih, tail_ih⟩) ((115 : UInt8) :: (116 : UInt8) :: (111 : UInt8) :: (114 : UInt8) :: (101 : UInt8) :: ([] : List UInt8))) ++ (32 : Int) :: ([] : List Int) ++ dec (x.1.getD g.2.1.toNat ((0 : Int), (0 : Int), (0 : Int), (0 : Int))).2.1 ++ (10 : Int) :: ([] : List Int)) = g.1 ++ ((114 : Int) :: List.map._f (fun b ↦ (↑b.toNat : Int)) ((101 : UInt8) :: (115 : UInt8) :: (116 : UInt8) :: (111 : UInt8) :: (114 : UInt8) :: (101 : UInt8) :: ([] : List UInt8)) (List.rec ⟨([] : List Int), PUnit.unit⟩ (fun head tail tail_ih ↦ ⟨List.map._f (fun b ↦ (↑b.toNat : Int)) (head :: tail) tail_ih, tail_ih⟩) ((115 : UInt8) :: (116 : UInt8) :: (111 : UInt8) :: (114 : UInt8) :: (101 : UInt8) :: ([] : List UInt8))) ++ (32 : Int) :: ([] : List Int) ++ dec (x.1.getD g.2.1.toNat ((0 : Int), (0 : Int), (0 : Int), (0 : Int))).2.1 ++ (10 : Int) :: ([] : List Int)) ∧
 x.1 = x.1 ∧
 RR (↑x.1.length : Int) ∧
 g.2.1 + (1 : Int) = g.2.1 + (1 : Int) ∧
 True) ∧
 True ∧
 True)) ∧
 (((x.1.getD g.2.1.toNat ((0 : Int), (0 : Int), (0 : Int), (0 : Int))).1 == (5 : Int)) = false →
 (((x.1.getD g.2.1.toNat ((0 : Int), (0 : Int), (0 : Int), (0 : Int))).1 == (6 : Int)) = true →
 ((!decide ((x.1.getD g.2.1.toNat ((0 : Int), (0 : Int), (0 : Int), (0 : Int))).2.1 < (0 : Int))) = true →
 (!decide ((x.1.getD g.2.1.toNat ((0 : Int), (0 : Int), (0 : Int), (0 : Int))).2.1 < (0 : Int))) = true) ∧
 ((!decide ((x.1.getD g.2.1.toNat ((0 : Int), (0 : Int), (0 : Int), (0 : Int))).2.1 < (0 : Int))) = true →
 (!decide ((x.1.getD g.2.1.toNat ((0 : Int), (0 : Int), (0 : Int), (0 : Int))).2.1 < (0 : Int))) = true) ∧
 ((!decide ((x.1.getD g.2.1.toNat ((0 : Int), (0 : Int), (0 : Int), (0 : Int))).2.1 < (0 : Int))) = true →
 (!decide ((x.1.getD g.2.1.toNat ((0 : Int), (0 : Int), (0 : Int), (0 : Int))).2.1 < (0 : Int))) = true) ∧
 (decide ((x.1.getD g.2.1.toNat ((0 : Int), (0 : Int), (0 : Int), (0 : Int))).2.1 < (0 : Int)) = false →
 (!decide ((x.1.getD g.2.1.toNat ((0 : Int), (0 : Int), (0 : Int), (0 : Int))).2.1 < (0 : Int))) = true) ∧
 ((decide ((x.1.getD g.2.1.toNat ((0 : Int), (0 : Int), (0 : Int), (0 : Int))).2.1 < (0 : Int)) || decide ((1099511627776 : Int) < (x.1.getD g.2.1.toNat ((0 : Int), (0 : Int), (0 : Int), (0 : Int))).2.1)) = true →
 ([] : List Int) = (printB x.1).1 ∧
 (2 : Int) = (printB x.1).2) ∧
 ((decide ((x.1.getD g.2.1.toNat ((0 : Int), (0 : Int), (0 : Int), (0 : Int))).2.1 < (0 : Int)) || decide ((1099511627776 : Int) < (x.1.getD g.2.1.toNat ((0 : Int), (0 : Int), (0 : Int), (0 : Int))).2.1)) = false →
 ((109 : Int) :: List.map._f (fun b ↦ (↑b.toNat : Int)) ((111 : UInt8) :: (118 : UInt8) :: (101 : UInt8) :: ([] : List UInt8)) (List.rec ⟨([] : List Int), PUnit.unit⟩ (fun head tail tail_ih ↦ ⟨List.map._f (fun b ↦ (↑b.toNat : Int)) (head :: tail) tail_ih, tail_ih⟩) ((118 : UInt8) :: (101 : UInt8) :: ([] : List UInt8)))).length + ((32 : Int) :: ([] : List Int)).length ≤ (9223372036854775807 : Nat) ∧
 Holds ((0 : Int) ≤ (x.1.getD g.2.1.toNat ((0 : Int), (0 : Int), (0 : Int), (0 : Int))).2.1 ∧
 (x.1.getD g.2.1.toNat ((0 : Int), (0 : Int), (0 : Int), (0 : Int))).2.1 ≤ (1099511627776 : Int)) ∧
 ((109 : Int) :: List.map._f (fun b ↦ (↑b.toNat : Int)) ((111 : UInt8) :: (118 : UInt8) :: (101 : UInt8) :: ([] : List UInt8)) (List.rec ⟨([] : List Int), PUnit.unit⟩ (fun head tail tail_ih ↦ ⟨List.map._f (fun b ↦ (↑b.toNat : Int)) (head :: tail) tail_ih, tail_ih⟩) ((118 : UInt8) :: (101 : UInt8) :: ([] : List UInt8))) ++ (32 : Int) :: ([] : List Int)).length + (dec (x.1.getD g.2.1.toNat ((0 : Int), (0 : Int), (0 : Int), (0 : Int))).2.1).length ≤ (9223372036854775807 : Nat) ∧
 ((109 : Int) :: List.map._f (fun b ↦ (↑b.toNat : Int)) ((111 : UInt8) :: (118 : UInt8) :: (101 : UInt8) :: ([] : List UInt8)) (List.rec ⟨([] : List Int), PUnit.unit⟩ (fun head tail tail_ih ↦ ⟨List.map._f (fun b ↦ (↑b.toNat : Int)) (head :: tail) tail_ih, tail_ih⟩) ((118 : UInt8) :: (101 : UInt8) :: ([] : List UInt8))) ++ (32 : Int) :: ([] : List Int) ++ dec (x.1.getD g.2.1.toNat ((0 : Int), (0 : Int), (0 : Int), (0 : Int))).2.1).length + ((10 : Int) :: ([] : List Int)).length ≤ (9223372036854775807 : Nat) ∧
 g.1.length + ((109 : Int) :: List.map._f (fun b ↦ (↑b.toNat : Int)) ((111 : UInt8) :: (118 : UInt8) :: (101 : UInt8) :: ([] : List UInt8)) (List.rec ⟨([] : List Int), PUnit.unit⟩ (fun head tail tail_ih ↦ ⟨List.map._f (fun b ↦ (↑b.toNat : Int)) (head :: tail) tail_ih, tail_ih⟩) ((118 : UInt8) :: (101 : UInt8) :: ([] : List UInt8))) ++ (32 : Int) :: ([] : List Int) ++ dec (x.1.getD g.2.1.toNat ((0 : Int), (0 : Int), (0 : Int), (0 : Int))).2.1 ++ (10 : Int) :: ([] : List Int)).length ≤ (9223372036854775807 : Nat) ∧
 ((-9223372036854775808 : Int) ≤ g.2.1 + (1 : Int) ∧
 g.2.1 + (1 : Int) ≤ (9223372036854775807 : Int)) ∧
 (((0 : Int) ≤ g.2.1 + (1 : Int) ∧
 g.2.1 + (1 : Int) ≤ (↑x.1.length : Int) ∧
 (List.take (g.2.1 + (1 : Int)).toNat x.1).all okK = true ∧
 g.1 ++ ((109 : Int) :: List.map._f (fun b ↦ (↑b.toNat : Int)) ((111 : UInt8) :: (118 : UInt8) :: (101 : UInt8) :: ([] : List UInt8)) (List.rec ⟨([] : List Int), PUnit.unit⟩ (fun head tail tail_ih ↦ ⟨List.map._f (fun b ↦ (↑b.toNat : Int)) (head :: tail) tail_ih, tail_ih⟩) ((118 : UInt8) :: (101 : UInt8) :: ([] : List UInt8))) ++ (32 : Int) :: ([] : List Int) ++ dec (x.1.getD g.2.1.toNat ((0 : Int), (0 : Int), (0 : Int), (0 : Int))).2.1 ++ (10 : Int) :: ([] : List Int)) = (List.map (fun o ↦ txtK o ++ (10 : Int) :: ([] : List Int)) (List.take (g.2.1 + (1 : Int)).toNat x.1)).flatten) ∧
 ((↑x.1.length : Int) - (g.2.1 + (1 : Int))).toNat < ((↑x.1.length : Int) - g.2.1).toNat) ∧
 (g.1 ++ ((109 : Int) :: List.map._f (fun b ↦ (↑b.toNat : Int)) ((111 : UInt8) :: (118 : UInt8) :: (101 : UInt8) :: ([] : List UInt8)) (List.rec ⟨([] : List Int), PUnit.unit⟩ (fun head tail tail_ih ↦ ⟨List.map._f (fun b ↦ (↑b.toNat : Int)) (head :: tail) tail_ih, tail_ih⟩) ((118 : UInt8) :: (101 : UInt8) :: ([] : List UInt8))) ++ (32 : Int) :: ([] : List Int) ++ dec (x.1.getD g.2.1.toNat ((0 : Int), (0 : Int), (0 : Int), (0 : Int))).2.1 ++ (10 : Int) :: ([] : List Int)) = g.1 ++ ((109 : Int) :: List.map._f (fun b ↦ (↑b.toNat : Int)) ((111 : UInt8) :: (118 : UInt8) :: (101 : UInt8) :: ([] : List UInt8)) (List.rec ⟨([] : List Int), PUnit.unit⟩ (fun head tail tail_ih ↦ ⟨List.map._f (fun b ↦ (↑b.toNat : Int)) (head :: tail) tail_ih, tail_ih⟩) ((118 : UInt8) :: (101 : UInt8) :: ([] : List UInt8))) ++ (32 : Int) :: ([] : List Int) ++ dec (x.1.getD g.2.1.toNat ((0 : Int), (0 : Int), (0 : Int), (0 : Int))).2.1 ++ (10 : Int) :: ([] : List Int)) ∧
 x.1 = x.1 ∧
 RR (↑x.1.length : Int) ∧
 g.2.1 + (1 : Int) = g.2.1 + (1 : Int) ∧
 True) ∧
 True ∧
 True)) ∧
 (((x.1.getD g.2.1.toNat ((0 : Int), (0 : Int), (0 : Int), (0 : Int))).1 == (6 : Int)) = false →
 ([] : List Int) = (printB x.1).1 ∧
 (2 : Int) = (printB x.1).2))))))) ∧
 (decide (g.2.1 < (↑x.1.length : Int)) = false →
 g.1 = (printB x.1).1 ∧
 (0 : Int) = (printB x.1).2)

theorem E_zprint_eq (x : HL (cPrint : Ctr).as) : vc (fx_zprint x) 2 5 Tryd.f5 (cPrint) x = E_zprint x := by kernel_rfl

def E_zread (x : List Int × Unit) : Prop := ((((1 : Int) ≤ (1 : Int) ∧
 (1 : Int) ≤ (7 : Int) ∧
 zreadB x.1 = zreadO x.1 ((7 : Int) - (1 : Int)).toNat) ∧
 True) ∧
 (x.1 = x.1 ∧
 (True ∧
 True) ∧
 RR (1 : Int) ∧
 True) ∧
 ((RR (0 : Int) ∧
 RR (0 : Int) ∧
 RR (0 : Int) ∧
 RR (0 : Int) ∧
 True) ∧
 True) ∧
 True) ∧
 ∀ (g : Int × Unit), (1 : Int) ≤ g.1 ∧
 g.1 ≤ (7 : Int) ∧
 zreadB x.1 = zreadO x.1 ((7 : Int) - g.1).toNat →
 ((-9223372036854775808 : Int) ≤ g.1 ∧
 g.1 ≤ (9223372036854775807 : Int)) ∧
 True →
 (decide (g.1 ≤ (6 : Int)) = true →
 ((-9223372036854775808 : Int) ≤ (0 : Int) ∧
 (0 : Int) ≤ (9223372036854775807 : Int)) ∧
 ((g.1 == (1 : Int)) = true →
 ((-9223372036854775808 : Int) ≤ (↑((105 : Int) :: List.map._f (fun b ↦ (↑b.toNat : Int)) ((110 : UInt8) :: ([] : List UInt8)) (List.rec ⟨([] : List Int), PUnit.unit⟩ (fun head tail tail_ih ↦ ⟨List.map._f (fun b ↦ (↑b.toNat : Int)) (head :: tail) tail_ih, tail_ih⟩) ([] : List UInt8))).length : Int) + (1 : Int) ∧
 (↑((105 : Int) :: List.map._f (fun b ↦ (↑b.toNat : Int)) ((110 : UInt8) :: ([] : List UInt8)) (List.rec ⟨([] : List Int), PUnit.unit⟩ (fun head tail tail_ih ↦ ⟨List.map._f (fun b ↦ (↑b.toNat : Int)) (head :: tail) tail_ih, tail_ih⟩) ([] : List UInt8))).length : Int) + (1 : Int) ≤ (9223372036854775807 : Int)) ∧
 ((!decide ((↑x.1.length : Int) ≤ (↑((105 : Int) :: List.map._f (fun b ↦ (↑b.toNat : Int)) ((110 : UInt8) :: ([] : List UInt8)) (List.rec ⟨([] : List Int), PUnit.unit⟩ (fun head tail tail_ih ↦ ⟨List.map._f (fun b ↦ (↑b.toNat : Int)) (head :: tail) tail_ih, tail_ih⟩) ([] : List UInt8))).length : Int) + (1 : Int))) = true →
 (!decide ((↑x.1.length : Int) ≤ (↑((105 : Int) :: List.map._f (fun b ↦ (↑b.toNat : Int)) ((110 : UInt8) :: ([] : List UInt8)) (List.rec ⟨([] : List Int), PUnit.unit⟩ (fun head tail tail_ih ↦ ⟨List.map._f (fun b ↦ (↑b.toNat : Int)) (head :: tail) tail_ih, tail_ih⟩) ([] : List UInt8))).length : Int) + (1 : Int))) = true) ∧
 ((!decide ((↑x.1.length : Int) ≤ (↑((105 : Int) :: List.map._f (fun b ↦ (↑b.toNat : Int)) ((110 : UInt8) :: ([] : List UInt8)) (List.rec ⟨([] : List Int), PUnit.unit⟩ (fun head tail tail_ih ↦ ⟨List.map._f (fun b ↦ (↑b.toNat : Int)) (head :: tail) tail_ih, tail_ih⟩) ([] : List UInt8))).length : Int) + (1 : Int))) = true →
 (!decide ((↑x.1.length : Int) ≤ (↑((105 : Int) :: List.map._f (fun b ↦ (↑b.toNat : Int)) ((110 : UInt8) :: ([] : List UInt8)) (List.rec ⟨([] : List Int), PUnit.unit⟩ (fun head tail tail_ih ↦ ⟨List.map._f (fun b ↦ (↑b.toNat : Int)) (head :: tail) tail_ih, tail_ih⟩) ([] : List UInt8))).length : Int) + (1 : Int))) = true ∧
 (-9223372036854775808 : Int) ≤ (↑((105 : Int) :: List.map._f (fun b ↦ (↑b.toNat : Int)) ((110 : UInt8) :: ([] : List UInt8)) (List.rec ⟨([] : List Int), PUnit.unit⟩ (fun head tail tail_ih ↦ ⟨List.map._f (fun b ↦ (↑b.toNat : Int)) (head :: tail) tail_ih, tail_ih⟩) ([] : List UInt8))).length : Int) + (1 : Int) ∧
 (↑((105 : Int) :: List.map._f (fun b ↦ (↑b.toNat : Int)) ((110 : UInt8) :: ([] : List UInt8)) (List.rec ⟨([] : List Int), PUnit.unit⟩ (fun head tail tail_ih ↦ ⟨List.map._f (fun b ↦ (↑b.toNat : Int)) (head :: tail) tail_ih, tail_ih⟩) ([] : List UInt8))).length : Int) + (1 : Int) ≤ (9223372036854775807 : Int)) ∧
 ((!decide ((↑x.1.length : Int) ≤ (↑((105 : Int) :: List.map._f (fun b ↦ (↑b.toNat : Int)) ((110 : UInt8) :: ([] : List UInt8)) (List.rec ⟨([] : List Int), PUnit.unit⟩ (fun head tail tail_ih ↦ ⟨List.map._f (fun b ↦ (↑b.toNat : Int)) (head :: tail) tail_ih, tail_ih⟩) ([] : List UInt8))).length : Int) + (1 : Int))) = true →
 ((!decide ((↑x.1.length : Int) ≤ (↑((105 : Int) :: List.map._f (fun b ↦ (↑b.toNat : Int)) ((110 : UInt8) :: ([] : List UInt8)) (List.rec ⟨([] : List Int), PUnit.unit⟩ (fun head tail tail_ih ↦ ⟨List.map._f (fun b ↦ (↑b.toNat : Int)) (head :: tail) tail_ih, tail_ih⟩) ([] : List UInt8))).length : Int) + (1 : Int))) = true ∧
 (!decide ((↑x.1.length : Int) ≤ (↑((105 : Int) :: List.map._f (fun b ↦ (↑b.toNat : Int)) ((110 : UInt8) :: ([] : List UInt8)) (List.rec ⟨([] : List Int), PUnit.unit⟩ (fun head tail tail_ih ↦ ⟨List.map._f (fun b ↦ (↑b.toNat : Int)) (head :: tail) tail_ih, tail_ih⟩) ([] : List UInt8))).length : Int) + (1 : Int))) = true) ∧
 ((0 : Int) ≤ (0 : Int) ∧
 (0 : Int) ≤ (↑((105 : Int) :: List.map._f (fun b ↦ (↑b.toNat : Int)) ((110 : UInt8) :: ([] : List UInt8)) (List.rec ⟨([] : List Int), PUnit.unit⟩ (fun head tail tail_ih ↦ ⟨List.map._f (fun b ↦ (↑b.toNat : Int)) (head :: tail) tail_ih, tail_ih⟩) ([] : List UInt8))).length : Int) + (1 : Int)) ∧
 (↑((105 : Int) :: List.map._f (fun b ↦ (↑b.toNat : Int)) ((110 : UInt8) :: ([] : List UInt8)) (List.rec ⟨([] : List Int), PUnit.unit⟩ (fun head tail tail_ih ↦ ⟨List.map._f (fun b ↦ (↑b.toNat : Int)) (head :: tail) tail_ih, tail_ih⟩) ([] : List UInt8))).length : Int) + (1 : Int) ≤ (↑x.1.length : Int)) ∧
 ((!decide ((↑x.1.length : Int) ≤ (↑((105 : Int) :: List.map._f (fun b ↦ (↑b.toNat : Int)) ((110 : UInt8) :: ([] : List UInt8)) (List.rec ⟨([] : List Int), PUnit.unit⟩ (fun head tail tail_ih ↦ ⟨List.map._f (fun b ↦ (↑b.toNat : Int)) (head :: tail) tail_ih, tail_ih⟩) ([] : List UInt8))).length : Int) + (1 : Int))) = true →
 (!decide ((↑x.1.length : Int) ≤ (↑((105 : Int) :: List.map._f (fun b ↦ (↑b.toNat : Int)) ((110 : UInt8) :: ([] : List UInt8)) (List.rec ⟨([] : List Int), PUnit.unit⟩ (fun head tail tail_ih ↦ ⟨List.map._f (fun b ↦ (↑b.toNat : Int)) (head :: tail) tail_ih, tail_ih⟩) ([] : List UInt8))).length : Int) + (1 : Int))) = true ∧
 ((105 : Int) :: List.map._f (fun b ↦ (↑b.toNat : Int)) ((110 : UInt8) :: ([] : List UInt8)) (List.rec ⟨([] : List Int), PUnit.unit⟩ (fun head tail tail_ih ↦ ⟨List.map._f (fun b ↦ (↑b.toNat : Int)) (head :: tail) tail_ih, tail_ih⟩) ([] : List UInt8))).length + ((32 : Int) :: ([] : List Int)).length ≤ (9223372036854775807 : Nat)) ∧
 ((!decide ((↑x.1.length : Int) ≤ (↑((105 : Int) :: List.map._f (fun b ↦ (↑b.toNat : Int)) ((110 : UInt8) :: ([] : List UInt8)) (List.rec ⟨([] : List Int), PUnit.unit⟩ (fun head tail tail_ih ↦ ⟨List.map._f (fun b ↦ (↑b.toNat : Int)) (head :: tail) tail_ih, tail_ih⟩) ([] : List UInt8))).length : Int) + (1 : Int))) = true →
 (!decide ((↑x.1.length : Int) ≤ (↑((105 : Int) :: List.map._f (fun b ↦ (↑b.toNat : Int)) ((110 : UInt8) :: ([] : List UInt8)) (List.rec ⟨([] : List Int), PUnit.unit⟩ (fun head tail tail_ih ↦ ⟨List.map._f (fun b ↦ (↑b.toNat : Int)) (head :: tail) tail_ih, tail_ih⟩) ([] : List UInt8))).length : Int) + (1 : Int))) = true ∧
 (!decide ((↑x.1.length : Int) ≤ (↑((105 : Int) :: List.map._f (fun b ↦ (↑b.toNat : Int)) ((110 : UInt8) :: ([] : List UInt8)) (List.rec ⟨([] : List Int), PUnit.unit⟩ (fun head tail tail_ih ↦ ⟨List.map._f (fun b ↦ (↑b.toNat : Int)) (head :: tail) tail_ih, tail_ih⟩) ([] : List UInt8))).length : Int) + (1 : Int))) = true) ∧
 (decide ((↑x.1.length : Int) ≤ (↑((105 : Int) :: List.map._f (fun b ↦ (↑b.toNat : Int)) ((110 : UInt8) :: ([] : List UInt8)) (List.rec ⟨([] : List Int), PUnit.unit⟩ (fun head tail tail_ih ↦ ⟨List.map._f (fun b ↦ (↑b.toNat : Int)) (head :: tail) tail_ih, tail_ih⟩) ([] : List UInt8))).length : Int) + (1 : Int)) = false →
 (!decide ((↑x.1.length : Int) ≤ (↑((105 : Int) :: List.map._f (fun b ↦ (↑b.toNat : Int)) ((110 : UInt8) :: ([] : List UInt8)) (List.rec ⟨([] : List Int), PUnit.unit⟩ (fun head tail tail_ih ↦ ⟨List.map._f (fun b ↦ (↑b.toNat : Int)) (head :: tail) tail_ih, tail_ih⟩) ([] : List UInt8))).length : Int) + (1 : Int))) = true) ∧
 ((decide ((↑x.1.length : Int) ≤ (↑((105 : Int) :: List.map._f (fun b ↦ (↑b.toNat : Int)) ((110 : UInt8) :: ([] : List UInt8)) (List.rec ⟨([] : List Int), PUnit.unit⟩ (fun head tail tail_ih ↦ ⟨List.map._f (fun b ↦ (↑b.toNat : Int)) (head :: tail) tail_ih, tail_ih⟩) ([] : List UInt8))).length : Int) + (1 : Int)) || !decide (List.drop (Int.toNat (0 : Int)) (List.take ((↑((105 : Int) :: List.map._f (fun b ↦ (↑b.toNat : Int)) ((110 : UInt8) :: ([] : List UInt8)) (List.rec ⟨([] : List Int), PUnit.unit⟩ (fun head tail tail_ih ↦ ⟨List.map._f (fun b ↦ (↑b.toNat : Int)) (head :: tail) tail_ih, tail_ih⟩) ([] : List UInt8))).length : Int) + (1 : Int)).toNat x.1) = (105 : Int) :: List.map._f (fun b ↦ (↑b.toNat : Int)) ((110 : UInt8) :: ([] : List UInt8)) (List.rec ⟨([] : List Int), PUnit.unit⟩ (fun head tail tail_ih ↦ ⟨List.map._f (fun b ↦ (↑b.toNat : Int)) (head :: tail) tail_ih, tail_ih⟩) ([] : List UInt8)) ++ (32 : Int) :: ([] : List Int))) = true →
 ((-9223372036854775808 : Int) ≤ g.1 + (1 : Int) ∧
 g.1 + (1 : Int) ≤ (9223372036854775807 : Int)) ∧
 (((1 : Int) ≤ g.1 + (1 : Int) ∧
 g.1 + (1 : Int) ≤ (7 : Int) ∧
 zreadB x.1 = zreadO x.1 ((7 : Int) - (g.1 + (1 : Int))).toNat) ∧
 ((7 : Int) - (g.1 + (1 : Int))).toNat < ((7 : Int) - g.1).toNat) ∧
 (x.1 = x.1 ∧
 (True ∧
 True) ∧
 g.1 + (1 : Int) = g.1 + (1 : Int) ∧
 True) ∧
 ((RR (0 : Int) ∧
 RR (0 : Int) ∧
 RR (0 : Int) ∧
 RR (0 : Int) ∧
 True) ∧
 True) ∧
 True) ∧
 ((decide ((↑x.1.length : Int) ≤ (↑((105 : Int) :: List.map._f (fun b ↦ (↑b.toNat : Int)) ((110 : UInt8) :: ([] : List UInt8)) (List.rec ⟨([] : List Int), PUnit.unit⟩ (fun head tail tail_ih ↦ ⟨List.map._f (fun b ↦ (↑b.toNat : Int)) (head :: tail) tail_ih, tail_ih⟩) ([] : List UInt8))).length : Int) + (1 : Int)) || !decide (List.drop (Int.toNat (0 : Int)) (List.take ((↑((105 : Int) :: List.map._f (fun b ↦ (↑b.toNat : Int)) ((110 : UInt8) :: ([] : List UInt8)) (List.rec ⟨([] : List Int), PUnit.unit⟩ (fun head tail tail_ih ↦ ⟨List.map._f (fun b ↦ (↑b.toNat : Int)) (head :: tail) tail_ih, tail_ih⟩) ([] : List UInt8))).length : Int) + (1 : Int)).toNat x.1) = (105 : Int) :: List.map._f (fun b ↦ (↑b.toNat : Int)) ((110 : UInt8) :: ([] : List UInt8)) (List.rec ⟨([] : List Int), PUnit.unit⟩ (fun head tail tail_ih ↦ ⟨List.map._f (fun b ↦ (↑b.toNat : Int)) (head :: tail) tail_ih, tail_ih⟩) ([] : List UInt8)) ++ (32 : Int) :: ([] : List Int))) = false →
 ((-9223372036854775808 : Int) ≤ (↑((105 : Int) :: List.map._f (fun b ↦ (↑b.toNat : Int)) ((110 : UInt8) :: ([] : List UInt8)) (List.rec ⟨([] : List Int), PUnit.unit⟩ (fun head tail tail_ih ↦ ⟨List.map._f (fun b ↦ (↑b.toNat : Int)) (head :: tail) tail_ih, tail_ih⟩) ([] : List UInt8))).length : Int) + (1 : Int) ∧
 (↑((105 : Int) :: List.map._f (fun b ↦ (↑b.toNat : Int)) ((110 : UInt8) :: ([] : List UInt8)) (List.rec ⟨([] : List Int), PUnit.unit⟩ (fun head tail tail_ih ↦ ⟨List.map._f (fun b ↦ (↑b.toNat : Int)) (head :: tail) tail_ih, tail_ih⟩) ([] : List UInt8))).length : Int) + (1 : Int) ≤ (9223372036854775807 : Int)) ∧
 (((0 : Int) ≤ (↑((105 : Int) :: List.map._f (fun b ↦ (↑b.toNat : Int)) ((110 : UInt8) :: ([] : List UInt8)) (List.rec ⟨([] : List Int), PUnit.unit⟩ (fun head tail tail_ih ↦ ⟨List.map._f (fun b ↦ (↑b.toNat : Int)) (head :: tail) tail_ih, tail_ih⟩) ([] : List UInt8))).length : Int) + (1 : Int) ∧
 (↑((105 : Int) :: List.map._f (fun b ↦ (↑b.toNat : Int)) ((110 : UInt8) :: ([] : List UInt8)) (List.rec ⟨([] : List Int), PUnit.unit⟩ (fun head tail tail_ih ↦ ⟨List.map._f (fun b ↦ (↑b.toNat : Int)) (head :: tail) tail_ih, tail_ih⟩) ([] : List UInt8))).length : Int) + (1 : Int) ≤ (↑x.1.length : Int)) ∧
 (↑x.1.length : Int) ≤ (↑x.1.length : Int)) ∧
 Holds ((List.drop ((↑((105 : Int) :: List.map._f (fun b ↦ (↑b.toNat : Int)) ((110 : UInt8) :: ([] : List UInt8)) (List.rec ⟨([] : List Int), PUnit.unit⟩ (fun head tail tail_ih ↦ ⟨List.map._f (fun b ↦ (↑b.toNat : Int)) (head :: tail) tail_ih, tail_ih⟩) ([] : List UInt8))).length : Int) + (1 : Int)).toNat (List.take (↑x.1.length : Int).toNat x.1)).length ≤ (1048576 : Nat) ∧
 RR (10 : Int) ∧
 (41 : Int) = (41 : Int)) ∧
 (pu41E (List.drop ((↑((105 : Int) :: List.map._f (fun b ↦ (↑b.toNat : Int)) ((110 : UInt8) :: ([] : List UInt8)) (List.rec ⟨([] : List Int), PUnit.unit⟩ (fun head tail tail_ih ↦ ⟨List.map._f (fun b ↦ (↑b.toNat : Int)) (head :: tail) tail_ih, tail_ih⟩) ([] : List UInt8))).length : Int) + (1 : Int)).toNat (List.take (↑x.1.length : Int).toNat x.1)) = false →
 (decide ((1099511627776 : Int) < pu41V (List.drop ((↑((105 : Int) :: List.map._f (fun b ↦ (↑b.toNat : Int)) ((110 : UInt8) :: ([] : List UInt8)) (List.rec ⟨([] : List Int), PUnit.unit⟩ (fun head tail tail_ih ↦ ⟨List.map._f (fun b ↦ (↑b.toNat : Int)) (head :: tail) tail_ih, tail_ih⟩) ([] : List UInt8))).length : Int) + (1 : Int)).toNat (List.take (↑x.1.length : Int).toNat x.1))) = false →
 Holds (pu41V (List.drop ((↑((105 : Int) :: List.map._f (fun b ↦ (↑b.toNat : Int)) ((110 : UInt8) :: ([] : List UInt8)) (List.rec ⟨([] : List Int), PUnit.unit⟩ (fun head tail tail_ih ↦ ⟨List.map._f (fun b ↦ (↑b.toNat : Int)) (head :: tail) tail_ih, tail_ih⟩) ([] : List UInt8))).length : Int) + (1 : Int)).toNat (List.take (↑x.1.length : Int).toNat x.1)) ≤ (1099511627776 : Int) ∧
 (10 : Int) = (10 : Int)) ∧
 ((-9223372036854775808 : Int) ≤ (↑((105 : Int) :: List.map._f (fun b ↦ (↑b.toNat : Int)) ((110 : UInt8) :: ([] : List UInt8)) (List.rec ⟨([] : List Int), PUnit.unit⟩ (fun head tail tail_ih ↦ ⟨List.map._f (fun b ↦ (↑b.toNat : Int)) (head :: tail) tail_ih, tail_ih⟩) ([] : List UInt8))).length : Int) + (1 : Int) ∧
 (↑((105 : Int) :: List.map._f (fun b ↦ (↑b.toNat : Int)) ((110 : UInt8) :: ([] : List UInt8)) (List.rec ⟨([] : List Int), PUnit.unit⟩ (fun head tail tail_ih ↦ ⟨List.map._f (fun b ↦ (↑b.toNat : Int)) (head :: tail) tail_ih, tail_ih⟩) ([] : List UInt8))).length : Int) + (1 : Int) ≤ (9223372036854775807 : Int)) ∧
 (((0 : Int) ≤ (↑((105 : Int) :: List.map._f (fun b ↦ (↑b.toNat : Int)) ((110 : UInt8) :: ([] : List UInt8)) (List.rec ⟨([] : List Int), PUnit.unit⟩ (fun head tail tail_ih ↦ ⟨List.map._f (fun b ↦ (↑b.toNat : Int)) (head :: tail) tail_ih, tail_ih⟩) ([] : List UInt8))).length : Int) + (1 : Int) ∧
 (↑((105 : Int) :: List.map._f (fun b ↦ (↑b.toNat : Int)) ((110 : UInt8) :: ([] : List UInt8)) (List.rec ⟨([] : List Int), PUnit.unit⟩ (fun head tail tail_ih ↦ ⟨List.map._f (fun b ↦ (↑b.toNat : Int)) (head :: tail) tail_ih, tail_ih⟩) ([] : List UInt8))).length : Int) + (1 : Int) ≤ (↑x.1.length : Int)) ∧
 (↑x.1.length : Int) ≤ (↑x.1.length : Int)) ∧
 ((!decide (dec (pu41V (List.drop ((↑((105 : Int) :: List.map._f (fun b ↦ (↑b.toNat : Int)) ((110 : UInt8) :: ([] : List UInt8)) (List.rec ⟨([] : List Int), PUnit.unit⟩ (fun head tail tail_ih ↦ ⟨List.map._f (fun b ↦ (↑b.toNat : Int)) (head :: tail) tail_ih, tail_ih⟩) ([] : List UInt8))).length : Int) + (1 : Int)).toNat (List.take (↑x.1.length : Int).toNat x.1))) = List.drop ((↑((105 : Int) :: List.map._f (fun b ↦ (↑b.toNat : Int)) ((110 : UInt8) :: ([] : List UInt8)) (List.rec ⟨([] : List Int), PUnit.unit⟩ (fun head tail tail_ih ↦ ⟨List.map._f (fun b ↦ (↑b.toNat : Int)) (head :: tail) tail_ih, tail_ih⟩) ([] : List UInt8))).length : Int) + (1 : Int)).toNat (List.take (↑x.1.length : Int).toNat x.1))) = false →
 ((g.1 == (1 : Int)) = true →
 (decide ((255 : Int) < pu41V (List.drop ((↑((105 : Int) :: List.map._f (fun b ↦ (↑b.toNat : Int)) ((110 : UInt8) :: ([] : List UInt8)) (List.rec ⟨([] : List Int), PUnit.unit⟩ (fun head tail tail_ih ↦ ⟨List.map._f (fun b ↦ (↑b.toNat : Int)) (head :: tail) tail_ih, tail_ih⟩) ([] : List UInt8))).length : Int) + (1 : Int)).toNat (List.take (↑x.1.length : Int).toNat x.1))) = true →
 ((0 : Int), (0 : Int), (0 : Int), (0 : Int)) = (zreadB x.1).1 ∧
 false = (zreadB x.1).2) ∧
 (decide ((255 : Int) < pu41V (List.drop ((↑((105 : Int) :: List.map._f (fun b ↦ (↑b.toNat : Int)) ((110 : UInt8) :: ([] : List UInt8)) (List.rec ⟨([] : List Int), PUnit.unit⟩ (fun head tail tail_ih ↦ ⟨List.map._f (fun b ↦ (↑b.toNat : Int)) (head :: tail) tail_ih, tail_ih⟩) ([] : List UInt8))).length : Int) + (1 : Int)).toNat (List.take (↑x.1.length : Int).toNat x.1))) = false →
 ((-9223372036854775808 : Int) ≤ pu41V (List.drop ((↑((105 : Int) :: List.map._f (fun b ↦ (↑b.toNat : Int)) ((110 : UInt8) :: ([] : List UInt8)) (List.rec ⟨([] : List Int), PUnit.unit⟩ (fun head tail tail_ih ↦ ⟨List.map._f (fun b ↦ (↑b.toNat : Int)) (head :: tail) tail_ih, tail_ih⟩) ([] : List UInt8))).length : Int) + (1 : Int)).toNat (List.take (↑x.1.length : Int).toNat x.1)) ∧
 pu41V (List.drop ((↑((105 : Int) :: List.map._f (fun b ↦ (↑b.toNat : Int)) ((110 : UInt8) :: ([] : List UInt8)) (List.rec ⟨([] : List Int), PUnit.unit⟩ (fun head tail tail_ih ↦ ⟨List.map._f (fun b ↦ (↑b.toNat : Int)) (head :: tail) tail_ih, tail_ih⟩) ([] : List UInt8))).length : Int) + (1 : Int)).toNat (List.take (↑x.1.length : Int).toNat x.1)) ≤ (9223372036854775807 : Int)) ∧
 ((g.1 == (1 : Int)) = true →
 ((0 : Int) ≤ pu41V (List.drop ((↑((105 : Int) :: List.map._f (fun b ↦ (↑b.toNat : Int)) ((110 : UInt8) :: ([] : List UInt8)) (List.rec ⟨([] : List Int), PUnit.unit⟩ (fun head tail tail_ih ↦ ⟨List.map._f (fun b ↦ (↑b.toNat : Int)) (head :: tail) tail_ih, tail_ih⟩) ([] : List UInt8))).length : Int) + (1 : Int)).toNat (List.take (↑x.1.length : Int).toNat x.1)) ∧
 pu41V (List.drop ((↑((105 : Int) :: List.map._f (fun b ↦ (↑b.toNat : Int)) ((110 : UInt8) :: ([] : List UInt8)) (List.rec ⟨([] : List Int), PUnit.unit⟩ (fun head tail tail_ih ↦ ⟨List.map._f (fun b ↦ (↑b.toNat : Int)) (head :: tail) tail_ih, tail_ih⟩) ([] : List UInt8))).length : Int) + (1 : Int)).toNat (List.take (↑x.1.length : Int).toNat x.1)) ≤ (255 : Int)) ∧
 (g.1, (0 : Int), (0 : Int), pu41V (List.drop ((↑((105 : Int) :: List.map._f (fun b ↦ (↑b.toNat : Int)) ((110 : UInt8) :: ([] : List UInt8)) (List.rec ⟨([] : List Int), PUnit.unit⟩ (fun head tail tail_ih ↦ ⟨List.map._f (fun b ↦ (↑b.toNat : Int)) (head :: tail) tail_ih, tail_ih⟩) ([] : List UInt8))).length : Int) + (1 : Int)).toNat (List.take (↑x.1.length : Int).toNat x.1))) = (zreadB x.1).1 ∧
 true = (zreadB x.1).2) ∧
 ((g.1 == (1 : Int)) = false →
 (g.1, (0 : Int), (0 : Int), (0 : Int)) = (zreadB x.1).1 ∧
 true = (zreadB x.1).2))) ∧
 ((g.1 == (1 : Int)) = !true →
 ((-9223372036854775808 : Int) ≤ pu41V (List.drop ((↑((105 : Int) :: List.map._f (fun b ↦ (↑b.toNat : Int)) ((110 : UInt8) :: ([] : List UInt8)) (List.rec ⟨([] : List Int), PUnit.unit⟩ (fun head tail tail_ih ↦ ⟨List.map._f (fun b ↦ (↑b.toNat : Int)) (head :: tail) tail_ih, tail_ih⟩) ([] : List UInt8))).length : Int) + (1 : Int)).toNat (List.take (↑x.1.length : Int).toNat x.1)) ∧
 pu41V (List.drop ((↑((105 : Int) :: List.map._f (fun b ↦ (↑b.toNat : Int)) ((110 : UInt8) :: ([] : List UInt8)) (List.rec ⟨([] : List Int), PUnit.unit⟩ (fun head tail tail_ih ↦ ⟨List.map._f (fun b ↦ (↑b.toNat : Int)) (head :: tail) tail_ih, tail_ih⟩) ([] : List UInt8))).length : Int) + (1 : Int)).toNat (List.take (↑x.1.length : Int).toNat x.1)) ≤ (9223372036854775807 : Int)) ∧
 ((g.1 == (1 : Int)) = true →
 ((0 : Int) ≤ pu41V (List.drop ((↑((105 : Int) :: List.map._f (fun b ↦ (↑b.toNat : Int)) ((110 : UInt8) :: ([] : List UInt8)) (List.rec ⟨([] : List Int), PUnit.unit⟩ (fun head tail tail_ih ↦ ⟨List.map._f (fun b ↦ (↑b.toNat : Int)) (head :: tail) tail_ih, tail_ih⟩) ([] : List UInt8))).length : Int) + (1 : Int)).toNat (List.take (↑x.1.length : Int).toNat x.1)) ∧
 pu41V (List.drop ((↑((105 : Int) :: List.map._f (fun b ↦ (↑b.toNat : Int)) ((110 : UInt8) :: ([] : List UInt8)) (List.rec ⟨([] : List Int), PUnit.unit⟩ (fun head tail tail_ih ↦ ⟨List.map._f (fun b ↦ (↑b.toNat : Int)) (head :: tail) tail_ih, tail_ih⟩) ([] : List UInt8))).length : Int) + (1 : Int)).toNat (List.take (↑x.1.length : Int).toNat x.1)) ≤ (255 : Int)) ∧
 (g.1, (0 : Int), (0 : Int), pu41V (List.drop ((↑((105 : Int) :: List.map._f (fun b ↦ (↑b.toNat : Int)) ((110 : UInt8) :: ([] : List UInt8)) (List.rec ⟨([] : List Int), PUnit.unit⟩ (fun head tail tail_ih ↦ ⟨List.map._f (fun b ↦ (↑b.toNat : Int)) (head :: tail) tail_ih, tail_ih⟩) ([] : List UInt8))).length : Int) + (1 : Int)).toNat (List.take (↑x.1.length : Int).toNat x.1))) = (zreadB x.1).1 ∧
 true = (zreadB x.1).2) ∧
 ((g.1 == (1 : Int)) = false →
 (g.1, (0 : Int), (0 : Int), (0 : Int)) = (zreadB x.1).1 ∧
 true = (zreadB x.1).2))) ∧
 ((!decide (dec (pu41V (List.drop ((↑((105 : Int) :: List.map._f (fun b ↦ (↑b.toNat : Int)) ((110 : UInt8) :: ([] : List UInt8)) (List.rec ⟨([] : List Int), PUnit.unit⟩ (fun head tail tail_ih ↦ ⟨List.map._f (fun b ↦ (↑b.toNat : Int)) (head :: tail) tail_ih, tail_ih⟩) ([] : List UInt8))).length : Int) + (1 : Int)).toNat (List.take (↑x.1.length : Int).toNat x.1))) = List.drop ((↑((105 : Int) :: List.map._f (fun b ↦ (↑b.toNat : Int)) ((110 : UInt8) :: ([] : List UInt8)) (List.rec ⟨([] : List Int), PUnit.unit⟩ (fun head tail tail_ih ↦ ⟨List.map._f (fun b ↦ (↑b.toNat : Int)) (head :: tail) tail_ih, tail_ih⟩) ([] : List UInt8))).length : Int) + (1 : Int)).toNat (List.take (↑x.1.length : Int).toNat x.1))) = !false →
 ((0 : Int), (0 : Int), (0 : Int), (0 : Int)) = (zreadB x.1).1 ∧
 false = (zreadB x.1).2)) ∧
 (decide ((1099511627776 : Int) < pu41V (List.drop ((↑((105 : Int) :: List.map._f (fun b ↦ (↑b.toNat : Int)) ((110 : UInt8) :: ([] : List UInt8)) (List.rec ⟨([] : List Int), PUnit.unit⟩ (fun head tail tail_ih ↦ ⟨List.map._f (fun b ↦ (↑b.toNat : Int)) (head :: tail) tail_ih, tail_ih⟩) ([] : List UInt8))).length : Int) + (1 : Int)).toNat (List.take (↑x.1.length : Int).toNat x.1))) = !false →
 ((0 : Int), (0 : Int), (0 : Int), (0 : Int)) = (zreadB x.1).1 ∧
 false = (zreadB x.1).2)) ∧
 (pu41E (List.drop ((↑((105 : Int) :: List.map._f (fun b ↦ (↑b.toNat : Int)) ((110 : UInt8) :: ([] : List UInt8)) (List.rec ⟨([] : List Int), PUnit.unit⟩ (fun head tail tail_ih ↦ ⟨List.map._f (fun b ↦ (↑b.toNat : Int)) (head :: tail) tail_ih, tail_ih⟩) ([] : List UInt8))).length : Int) + (1 : Int)).toNat (List.take (↑x.1.length : Int).toNat x.1)) = !false →
 ((0 : Int), (0 : Int), (0 : Int), (0 : Int)) = (zreadB x.1).1 ∧
 false = (zreadB x.1).2))) ∧
 ((g.1 == (1 : Int)) = false →
 ((g.1 == (2 : Int)) = true →
 ((-9223372036854775808 : Int) ≤ (↑((114 : Int) :: List.map._f (fun b ↦ (↑b.toNat : Int)) ((117 : UInt8) :: (110 : UInt8) :: ([] : List UInt8)) (List.rec ⟨([] : List Int), PUnit.unit⟩ (fun head tail tail_ih ↦ ⟨List.map._f (fun b ↦ (↑b.toNat : Int)) (head :: tail) tail_ih, tail_ih⟩) ((110 : UInt8) :: ([] : List UInt8)))).length : Int) + (1 : Int) ∧
 (↑((114 : Int) :: List.map._f (fun b ↦ (↑b.toNat : Int)) ((117 : UInt8) :: (110 : UInt8) :: ([] : List UInt8)) (List.rec ⟨([] : List Int), PUnit.unit⟩ (fun head tail tail_ih ↦ ⟨List.map._f (fun b ↦ (↑b.toNat : Int)) (head :: tail) tail_ih, tail_ih⟩) ((110 : UInt8) :: ([] : List UInt8)))).length : Int) + (1 : Int) ≤ (9223372036854775807 : Int)) ∧
 ((!decide ((↑x.1.length : Int) ≤ (↑((114 : Int) :: List.map._f (fun b ↦ (↑b.toNat : Int)) ((117 : UInt8) :: (110 : UInt8) :: ([] : List UInt8)) (List.rec ⟨([] : List Int), PUnit.unit⟩ (fun head tail tail_ih ↦ ⟨List.map._f (fun b ↦ (↑b.toNat : Int)) (head :: tail) tail_ih, tail_ih⟩) ((110 : UInt8) :: ([] : List UInt8)))).length : Int) + (1 : Int))) = true →
 (!decide ((↑x.1.length : Int) ≤ (↑((114 : Int) :: List.map._f (fun b ↦ (↑b.toNat : Int)) ((117 : UInt8) :: (110 : UInt8) :: ([] : List UInt8)) (List.rec ⟨([] : List Int), PUnit.unit⟩ (fun head tail tail_ih ↦ ⟨List.map._f (fun b ↦ (↑b.toNat : Int)) (head :: tail) tail_ih, tail_ih⟩) ((110 : UInt8) :: ([] : List UInt8)))).length : Int) + (1 : Int))) = true) ∧
 ((!decide ((↑x.1.length : Int) ≤ (↑((114 : Int) :: List.map._f (fun b ↦ (↑b.toNat : Int)) ((117 : UInt8) :: (110 : UInt8) :: ([] : List UInt8)) (List.rec ⟨([] : List Int), PUnit.unit⟩ (fun head tail tail_ih ↦ ⟨List.map._f (fun b ↦ (↑b.toNat : Int)) (head :: tail) tail_ih, tail_ih⟩) ((110 : UInt8) :: ([] : List UInt8)))).length : Int) + (1 : Int))) = true →
 (!decide ((↑x.1.length : Int) ≤ (↑((114 : Int) :: List.map._f (fun b ↦ (↑b.toNat : Int)) ((117 : UInt8) :: (110 : UInt8) :: ([] : List UInt8)) (List.rec ⟨([] : List Int), PUnit.unit⟩ (fun head tail tail_ih ↦ ⟨List.map._f (fun b ↦ (↑b.toNat : Int)) (head :: tail) tail_ih, tail_ih⟩) ((110 : UInt8) :: ([] : List UInt8)))).length : Int) + (1 : Int))) = true ∧
 (-9223372036854775808 : Int) ≤ (↑((114 : Int) :: List.map._f (fun b ↦ (↑b.toNat : Int)) ((117 : UInt8) :: (110 : UInt8) :: ([] : List UInt8)) (List.rec ⟨([] : List Int), PUnit.unit⟩ (fun head tail tail_ih ↦ ⟨List.map._f (fun b ↦ (↑b.toNat : Int)) (head :: tail) tail_ih, tail_ih⟩) ((110 : UInt8) :: ([] : List UInt8)))).length : Int) + (1 : Int) ∧
 (↑((114 : Int) :: List.map._f (fun b ↦ (↑b.toNat : Int)) ((117 : UInt8) :: (110 : UInt8) :: ([] : List UInt8)) (List.rec ⟨([] : List Int), PUnit.unit⟩ (fun head tail tail_ih ↦ ⟨List.map._f (fun b ↦ (↑b.toNat : Int)) (head :: tail) tail_ih, tail_ih⟩) ((110 : UInt8) :: ([] : List UInt8)))).length : Int) + (1 : Int) ≤ (9223372036854775807 : Int)) ∧
 ((!decide ((↑x.1.length : Int) ≤ (↑((114 : Int) :: List.map._f (fun b ↦ (↑b.toNat : Int)) ((117 : UInt8) :: (110 : UInt8) :: ([] : List UInt8)) (List.rec ⟨([] : List Int), PUnit.unit⟩ (fun head tail tail_ih ↦ ⟨List.map._f (fun b ↦ (↑b.toNat : Int)) (head :: tail) tail_ih, tail_ih⟩) ((110 : UInt8) :: ([] : List UInt8)))).length : Int) + (1 : Int))) = true →
 ((!decide ((↑x.1.length : Int) ≤ (↑((114 : Int) :: List.map._f (fun b ↦ (↑b.toNat : Int)) ((117 : UInt8) :: (110 : UInt8) :: ([] : List UInt8)) (List.rec ⟨([] : List Int), PUnit.unit⟩ (fun head tail tail_ih ↦ ⟨List.map._f (fun b ↦ (↑b.toNat : Int)) (head :: tail) tail_ih, tail_ih⟩) ((110 : UInt8) :: ([] : List UInt8)))).length : Int) + (1 : Int))) = true ∧
 (!decide ((↑x.1.length : Int) ≤ (↑((114 : Int) :: List.map._f (fun b ↦ (↑b.toNat : Int)) ((117 : UInt8) :: (110 : UInt8) :: ([] : List UInt8)) (List.rec ⟨([] : List Int), PUnit.unit⟩ (fun head tail tail_ih ↦ ⟨List.map._f (fun b ↦ (↑b.toNat : Int)) (head :: tail) tail_ih, tail_ih⟩) ((110 : UInt8) :: ([] : List UInt8)))).length : Int) + (1 : Int))) = true) ∧
 ((0 : Int) ≤ (0 : Int) ∧
 (0 : Int) ≤ (↑((114 : Int) :: List.map._f (fun b ↦ (↑b.toNat : Int)) ((117 : UInt8) :: (110 : UInt8) :: ([] : List UInt8)) (List.rec ⟨([] : List Int), PUnit.unit⟩ (fun head tail tail_ih ↦ ⟨List.map._f (fun b ↦ (↑b.toNat : Int)) (head :: tail) tail_ih, tail_ih⟩) ((110 : UInt8) :: ([] : List UInt8)))).length : Int) + (1 : Int)) ∧
 (↑((114 : Int) :: List.map._f (fun b ↦ (↑b.toNat : Int)) ((117 : UInt8) :: (110 : UInt8) :: ([] : List UInt8)) (List.rec ⟨([] : List Int), PUnit.unit⟩ (fun head tail tail_ih ↦ ⟨List.map._f (fun b ↦ (↑b.toNat : Int)) (head :: tail) tail_ih, tail_ih⟩) ((110 : UInt8) :: ([] : List UInt8)))).length : Int) + (1 : Int) ≤ (↑x.1.length : Int)) ∧
 ((!decide ((↑x.1.length : Int) ≤ (↑((114 : Int) :: List.map._f (fun b ↦ (↑b.toNat : Int)) ((117 : UInt8) :: (110 : UInt8) :: ([] : List UInt8)) (List.rec ⟨([] : List Int), PUnit.unit⟩ (fun head tail tail_ih ↦ ⟨List.map._f (fun b ↦ (↑b.toNat : Int)) (head :: tail) tail_ih, tail_ih⟩) ((110 : UInt8) :: ([] : List UInt8)))).length : Int) + (1 : Int))) = true →
 (!decide ((↑x.1.length : Int) ≤ (↑((114 : Int) :: List.map._f (fun b ↦ (↑b.toNat : Int)) ((117 : UInt8) :: (110 : UInt8) :: ([] : List UInt8)) (List.rec ⟨([] : List Int), PUnit.unit⟩ (fun head tail tail_ih ↦ ⟨List.map._f (fun b ↦ (↑b.toNat : Int)) (head :: tail) tail_ih, tail_ih⟩) ((110 : UInt8) :: ([] : List UInt8)))).length : Int) + (1 : Int))) = true ∧
 ((114 : Int) :: List.map._f (fun b ↦ (↑b.toNat : Int)) ((117 : UInt8) :: (110 : UInt8) :: ([] : List UInt8)) (List.rec ⟨([] : List Int), PUnit.unit⟩ (fun head tail tail_ih ↦ ⟨List.map._f (fun b ↦ (↑b.toNat : Int)) (head :: tail) tail_ih, tail_ih⟩) ((110 : UInt8) :: ([] : List UInt8)))).length + ((32 : Int) :: ([] : List Int)).length ≤ (9223372036854775807 : Nat)) ∧
 ((!decide ((↑x.1.length : Int) ≤ (↑((114 : Int) :: List.map._f (fun b ↦ (↑b.toNat : Int)) ((117 : UInt8) :: (110 : UInt8) :: ([] : List UInt8)) (List.rec ⟨([] : List Int), PUnit.unit⟩ (fun head tail tail_ih ↦ ⟨List.map._f (fun b ↦ (↑b.toNat : Int)) (head :: tail) tail_ih, tail_ih⟩) ((110 : UInt8) :: ([] : List UInt8)))).length : Int) + (1 : Int))) = true →
 (!decide ((↑x.1.length : Int) ≤ (↑((114 : Int) :: List.map._f (fun b ↦ (↑b.toNat : Int)) ((117 : UInt8) :: (110 : UInt8) :: ([] : List UInt8)) (List.rec ⟨([] : List Int), PUnit.unit⟩ (fun head tail tail_ih ↦ ⟨List.map._f (fun b ↦ (↑b.toNat : Int)) (head :: tail) tail_ih, tail_ih⟩) ((110 : UInt8) :: ([] : List UInt8)))).length : Int) + (1 : Int))) = true ∧
 (!decide ((↑x.1.length : Int) ≤ (↑((114 : Int) :: List.map._f (fun b ↦ (↑b.toNat : Int)) ((117 : UInt8) :: (110 : UInt8) :: ([] : List UInt8)) (List.rec ⟨([] : List Int), PUnit.unit⟩ (fun head tail tail_ih ↦ ⟨List.map._f (fun b ↦ (↑b.toNat : Int)) (head :: tail) tail_ih, tail_ih⟩) ((110 : UInt8) :: ([] : List UInt8)))).length : Int) + (1 : Int))) = true) ∧
 (decide ((↑x.1.length : Int) ≤ (↑((114 : Int) :: List.map._f (fun b ↦ (↑b.toNat : Int)) ((117 : UInt8) :: (110 : UInt8) :: ([] : List UInt8)) (List.rec ⟨([] : List Int), PUnit.unit⟩ (fun head tail tail_ih ↦ ⟨List.map._f (fun b ↦ (↑b.toNat : Int)) (head :: tail) tail_ih, tail_ih⟩) ((110 : UInt8) :: ([] : List UInt8)))).length : Int) + (1 : Int)) = false →
 (!decide ((↑x.1.length : Int) ≤ (↑((114 : Int) :: List.map._f (fun b ↦ (↑b.toNat : Int)) ((117 : UInt8) :: (110 : UInt8) :: ([] : List UInt8)) (List.rec ⟨([] : List Int), PUnit.unit⟩ (fun head tail tail_ih ↦ ⟨List.map._f (fun b ↦ (↑b.toNat : Int)) (head :: tail) tail_ih, tail_ih⟩) ((110 : UInt8) :: ([] : List UInt8)))).length : Int) + (1 : Int))) = true) ∧
 ((decide ((↑x.1.length : Int) ≤ (↑((114 : Int) :: List.map._f (fun b ↦ (↑b.toNat : Int)) ((117 : UInt8) :: (110 : UInt8) :: ([] : List UInt8)) (List.rec ⟨([] : List Int), PUnit.unit⟩ (fun head tail tail_ih ↦ ⟨List.map._f (fun b ↦ (↑b.toNat : Int)) (head :: tail) tail_ih, tail_ih⟩) ((110 : UInt8) :: ([] : List UInt8)))).length : Int) + (1 : Int)) || !decide (List.drop (Int.toNat (0 : Int)) (List.take ((↑((114 : Int) :: List.map._f (fun b ↦ (↑b.toNat : Int)) ((117 : UInt8) :: (110 : UInt8) :: ([] : List UInt8)) (List.rec ⟨([] : List Int), PUnit.unit⟩ (fun head tail tail_ih ↦ ⟨List.map._f (fun b ↦ (↑b.toNat : Int)) (head :: tail) tail_ih, tail_ih⟩) ((110 : UInt8) :: ([] : List UInt8)))).length : Int) + (1 : Int)).toNat x.1) = (114 : Int) :: List.map._f (fun b ↦ (↑b.toNat : Int)) ((117 : UInt8) :: (110 : UInt8) :: ([] : List UInt8)) (List.rec ⟨([] : List Int), PUnit.unit⟩ (fun head tail tail_ih ↦ ⟨List.map._f (fun b ↦ (↑b.toNat : Int)) (head :: tail) tail_ih, tail_ih⟩) ((110 : UInt8) :: ([] : List UInt8))) ++ (32 : Int) :: ([] : List Int))) = true →
 ((-9223372036854775808 : Int) ≤ g.1 + (1 : Int) ∧
 g.1 + (1 : Int) ≤ (9223372036854775807 : Int)) ∧
 (((1 : Int) ≤ g.1 + (1 : Int) ∧
 g.1 + (1 : Int) ≤ (7 : Int) ∧
 zreadB x.1 = zreadO x.1 ((7 : Int) - (g.1 + (1 : Int))).toNat) ∧
 ((7 : Int) - (g.1 + (1 : Int))).toNat < ((7 : Int) - g.1).toNat) ∧
 (x.1 = x.1 ∧
 (True ∧
 True) ∧
 g.1 + (1 : Int) = g.1 + (1 : Int) ∧
 True) ∧
 ((RR (0 : Int) ∧
 RR (0 : Int) ∧
 RR (0 : Int) ∧
 RR (0 : Int) ∧
 True) ∧
 True) ∧
 True) ∧
 ((decide ((↑x.1.length : Int) ≤ (↑((114 : Int) :: List.map._f (fun b ↦ (↑b.toNat : Int)) ((117 : UInt8) :: (110 : UInt8) :: ([] : List UInt8)) (List.rec ⟨([] : List Int), PUnit.unit⟩ (fun head tail tail_ih ↦ ⟨List.map._f (fun b ↦ (↑b.toNat : Int)) (head :: tail) tail_ih, tail_ih⟩) ((110 : UInt8) :: ([] : List UInt8)))).length : Int) + (1 : Int)) || !decide (List.drop (Int.toNat (0 : Int)) (List.take ((↑((114 : Int) :: List.map._f (fun b ↦ (↑b.toNat : Int)) ((117 : UInt8) :: (110 : UInt8) :: ([] : List UInt8)) (List.rec ⟨([] : List Int), PUnit.unit⟩ (fun head tail tail_ih ↦ ⟨List.map._f (fun b ↦ (↑b.toNat : Int)) (head :: tail) tail_ih, tail_ih⟩) ((110 : UInt8) :: ([] : List UInt8)))).length : Int) + (1 : Int)).toNat x.1) = (114 : Int) :: List.map._f (fun b ↦ (↑b.toNat : Int)) ((117 : UInt8) :: (110 : UInt8) :: ([] : List UInt8)) (List.rec ⟨([] : List Int), PUnit.unit⟩ (fun head tail tail_ih ↦ ⟨List.map._f (fun b ↦ (↑b.toNat : Int)) (head :: tail) tail_ih, tail_ih⟩) ((110 : UInt8) :: ([] : List UInt8))) ++ (32 : Int) :: ([] : List Int))) = false →
 ((-9223372036854775808 : Int) ≤ (↑((114 : Int) :: List.map._f (fun b ↦ (↑b.toNat : Int)) ((117 : UInt8) :: (110 : UInt8) :: ([] : List UInt8)) (List.rec ⟨([] : List Int), PUnit.unit⟩ (fun head tail tail_ih ↦ ⟨List.map._f (fun b ↦ (↑b.toNat : Int)) (head :: tail) tail_ih, tail_ih⟩) ((110 : UInt8) :: ([] : List UInt8)))).length : Int) + (1 : Int) ∧
 (↑((114 : Int) :: List.map._f (fun b ↦ (↑b.toNat : Int)) ((117 : UInt8) :: (110 : UInt8) :: ([] : List UInt8)) (List.rec ⟨([] : List Int), PUnit.unit⟩ (fun head tail tail_ih ↦ ⟨List.map._f (fun b ↦ (↑b.toNat : Int)) (head :: tail) tail_ih, tail_ih⟩) ((110 : UInt8) :: ([] : List UInt8)))).length : Int) + (1 : Int) ≤ (9223372036854775807 : Int)) ∧
 (((0 : Int) ≤ (↑((114 : Int) :: List.map._f (fun b ↦ (↑b.toNat : Int)) ((117 : UInt8) :: (110 : UInt8) :: ([] : List UInt8)) (List.rec ⟨([] : List Int), PUnit.unit⟩ (fun head tail tail_ih ↦ ⟨List.map._f (fun b ↦ (↑b.toNat : Int)) (head :: tail) tail_ih, tail_ih⟩) ((110 : UInt8) :: ([] : List UInt8)))).length : Int) + (1 : Int) ∧
 (↑((114 : Int) :: List.map._f (fun b ↦ (↑b.toNat : Int)) ((117 : UInt8) :: (110 : UInt8) :: ([] : List UInt8)) (List.rec ⟨([] : List Int), PUnit.unit⟩ (fun head tail tail_ih ↦ ⟨List.map._f (fun b ↦ (↑b.toNat : Int)) (head :: tail) tail_ih, tail_ih⟩) ((110 : UInt8) :: ([] : List UInt8)))).length : Int) + (1 : Int) ≤ (↑x.1.length : Int)) ∧
 (↑x.1.length : Int) ≤ (↑x.1.length : Int)) ∧
 Holds ((List.drop ((↑((114 : Int) :: List.map._f (fun b ↦ (↑b.toNat : Int)) ((117 : UInt8) :: (110 : UInt8) :: ([] : List UInt8)) (List.rec ⟨([] : List Int), PUnit.unit⟩ (fun head tail tail_ih ↦ ⟨List.map._f (fun b ↦ (↑b.toNat : Int)) (head :: tail) tail_ih, tail_ih⟩) ((110 : UInt8) :: ([] : List UInt8)))).length : Int) + (1 : Int)).toNat (List.take (↑x.1.length : Int).toNat x.1)).length ≤ (1048576 : Nat) ∧
 RR (10 : Int) ∧
 (41 : Int) = (41 : Int)) ∧
 (pu41E (List.drop ((↑((114 : Int) :: List.map._f (fun b ↦ (↑b.toNat : Int)) ((117 : UInt8) :: (110 : UInt8) :: ([] : List UInt8)) (List.rec ⟨([] : List Int), PUnit.unit⟩ (fun head tail tail_ih ↦ ⟨List.map._f (fun b ↦ (↑b.toNat : Int)) (head :: tail) tail_ih, tail_ih⟩) ((110 : UInt8) :: ([] : List UInt8)))).length : Int) + (1 : Int)).toNat (List.take (↑x.1.length : Int).toNat x.1)) = false →
 (decide ((1099511627776 : Int) < pu41V (List.drop ((↑((114 : Int) :: List.map._f (fun b ↦ (↑b.toNat : Int)) ((117 : UInt8) :: (110 : UInt8) :: ([] : List UInt8)) (List.rec ⟨([] : List Int), PUnit.unit⟩ (fun head tail tail_ih ↦ ⟨List.map._f (fun b ↦ (↑b.toNat : Int)) (head :: tail) tail_ih, tail_ih⟩) ((110 : UInt8) :: ([] : List UInt8)))).length : Int) + (1 : Int)).toNat (List.take (↑x.1.length : Int).toNat x.1))) = false →
 Holds (pu41V (List.drop ((↑((114 : Int) :: List.map._f (fun b ↦ (↑b.toNat : Int)) ((117 : UInt8) :: (110 : UInt8) :: ([] : List UInt8)) (List.rec ⟨([] : List Int), PUnit.unit⟩ (fun head tail tail_ih ↦ ⟨List.map._f (fun b ↦ (↑b.toNat : Int)) (head :: tail) tail_ih, tail_ih⟩) ((110 : UInt8) :: ([] : List UInt8)))).length : Int) + (1 : Int)).toNat (List.take (↑x.1.length : Int).toNat x.1)) ≤ (1099511627776 : Int) ∧
 (10 : Int) = (10 : Int)) ∧
 ((-9223372036854775808 : Int) ≤ (↑((114 : Int) :: List.map._f (fun b ↦ (↑b.toNat : Int)) ((117 : UInt8) :: (110 : UInt8) :: ([] : List UInt8)) (List.rec ⟨([] : List Int), PUnit.unit⟩ (fun head tail tail_ih ↦ ⟨List.map._f (fun b ↦ (↑b.toNat : Int)) (head :: tail) tail_ih, tail_ih⟩) ((110 : UInt8) :: ([] : List UInt8)))).length : Int) + (1 : Int) ∧
 (↑((114 : Int) :: List.map._f (fun b ↦ (↑b.toNat : Int)) ((117 : UInt8) :: (110 : UInt8) :: ([] : List UInt8)) (List.rec ⟨([] : List Int), PUnit.unit⟩ (fun head tail tail_ih ↦ ⟨List.map._f (fun b ↦ (↑b.toNat : Int)) (head :: tail) tail_ih, tail_ih⟩) ((110 : UInt8) :: ([] : List UInt8)))).length : Int) + (1 : Int) ≤ (9223372036854775807 : Int)) ∧
 (((0 : Int) ≤ (↑((114 : Int) :: List.map._f (fun b ↦ (↑b.toNat : Int)) ((117 : UInt8) :: (110 : UInt8) :: ([] : List UInt8)) (List.rec ⟨([] : List Int), PUnit.unit⟩ (fun head tail tail_ih ↦ ⟨List.map._f (fun b ↦ (↑b.toNat : Int)) (head :: tail) tail_ih, tail_ih⟩) ((110 : UInt8) :: ([] : List UInt8)))).length : Int) + (1 : Int) ∧
 (↑((114 : Int) :: List.map._f (fun b ↦ (↑b.toNat : Int)) ((117 : UInt8) :: (110 : UInt8) :: ([] : List UInt8)) (List.rec ⟨([] : List Int), PUnit.unit⟩ (fun head tail tail_ih ↦ ⟨List.map._f (fun b ↦ (↑b.toNat : Int)) (head :: tail) tail_ih, tail_ih⟩) ((110 : UInt8) :: ([] : List UInt8)))).length : Int) + (1 : Int) ≤ (↑x.1.length : Int)) ∧
 (↑x.1.length : Int) ≤ (↑x.1.length : Int)) ∧
 ((!decide (dec (pu41V (List.drop ((↑((114 : Int) :: List.map._f (fun b ↦ (↑b.toNat : Int)) ((117 : UInt8) :: (110 : UInt8) :: ([] : List UInt8)) (List.rec ⟨([] : List Int), PUnit.unit⟩ (fun head tail tail_ih ↦ ⟨List.map._f (fun b ↦ (↑b.toNat : Int)) (head :: tail) tail_ih, tail_ih⟩) ((110 : UInt8) :: ([] : List UInt8)))).length : Int) + (1 : Int)).toNat (List.take (↑x.1.length : Int).toNat x.1))) = List.drop ((↑((114 : Int) :: List.map._f (fun b ↦ (↑b.toNat : Int)) ((117 : UInt8) :: (110 : UInt8) :: ([] : List UInt8)) (List.rec ⟨([] : List Int), PUnit.unit⟩ (fun head tail tail_ih ↦ ⟨List.map._f (fun b ↦ (↑b.toNat : Int)) (head :: tail) tail_ih, tail_ih⟩) ((110 : UInt8) :: ([] : List UInt8)))).length : Int) + (1 : Int)).toNat (List.take (↑x.1.length : Int).toNat x.1))) = false →
 ((g.1 == (1 : Int)) = true →
 (decide ((255 : Int) < pu41V (List.drop ((↑((114 : Int) :: List.map._f (fun b ↦ (↑b.toNat : Int)) ((117 : UInt8) :: (110 : UInt8) :: ([] : List UInt8)) (List.rec ⟨([] : List Int), PUnit.unit⟩ (fun head tail tail_ih ↦ ⟨List.map._f (fun b ↦ (↑b.toNat : Int)) (head :: tail) tail_ih, tail_ih⟩) ((110 : UInt8) :: ([] : List UInt8)))).length : Int) + (1 : Int)).toNat (List.take (↑x.1.length : Int).toNat x.1))) = true →
 ((0 : Int), (0 : Int), (0 : Int), (0 : Int)) = (zreadB x.1).1 ∧
 false = (zreadB x.1).2) ∧
 (decide ((255 : Int) < pu41V (List.drop ((↑((114 : Int) :: List.map._f (fun b ↦ (↑b.toNat : Int)) ((117 : UInt8) :: (110 : UInt8) :: ([] : List UInt8)) (List.rec ⟨([] : List Int), PUnit.unit⟩ (fun head tail tail_ih ↦ ⟨List.map._f (fun b ↦ (↑b.toNat : Int)) (head :: tail) tail_ih, tail_ih⟩) ((110 : UInt8) :: ([] : List UInt8)))).length : Int) + (1 : Int)).toNat (List.take (↑x.1.length : Int).toNat x.1))) = false →
 ((-9223372036854775808 : Int) ≤ pu41V (List.drop ((↑((114 : Int) :: List.map._f (fun b ↦ (↑b.toNat : Int)) ((117 : UInt8) :: (110 : UInt8) :: ([] : List UInt8)) (List.rec ⟨([] : List Int), PUnit.unit⟩ (fun head tail tail_ih ↦ ⟨List.map._f (fun b ↦ (↑b.toNat : Int)) (head :: tail) tail_ih, tail_ih⟩) ((110 : UInt8) :: ([] : List UInt8)))).length : Int) + (1 : Int)).toNat (List.take (↑x.1.length : Int).toNat x.1)) ∧
 pu41V (List.drop ((↑((114 : Int) :: List.map._f (fun b ↦ (↑b.toNat : Int)) ((117 : UInt8) :: (110 : UInt8) :: ([] : List UInt8)) (List.rec ⟨([] : List Int), PUnit.unit⟩ (fun head tail tail_ih ↦ ⟨List.map._f (fun b ↦ (↑b.toNat : Int)) (head :: tail) tail_ih, tail_ih⟩) ((110 : UInt8) :: ([] : List UInt8)))).length : Int) + (1 : Int)).toNat (List.take (↑x.1.length : Int).toNat x.1)) ≤ (9223372036854775807 : Int)) ∧
 ((g.1 == (1 : Int)) = true →
 ((0 : Int) ≤ pu41V (List.drop ((↑((114 : Int) :: List.map._f (fun b ↦ (↑b.toNat : Int)) ((117 : UInt8) :: (110 : UInt8) :: ([] : List UInt8)) (List.rec ⟨([] : List Int), PUnit.unit⟩ (fun head tail tail_ih ↦ ⟨List.map._f (fun b ↦ (↑b.toNat : Int)) (head :: tail) tail_ih, tail_ih⟩) ((110 : UInt8) :: ([] : List UInt8)))).length : Int) + (1 : Int)).toNat (List.take (↑x.1.length : Int).toNat x.1)) ∧
 pu41V (List.drop ((↑((114 : Int) :: List.map._f (fun b ↦ (↑b.toNat : Int)) ((117 : UInt8) :: (110 : UInt8) :: ([] : List UInt8)) (List.rec ⟨([] : List Int), PUnit.unit⟩ (fun head tail tail_ih ↦ ⟨List.map._f (fun b ↦ (↑b.toNat : Int)) (head :: tail) tail_ih, tail_ih⟩) ((110 : UInt8) :: ([] : List UInt8)))).length : Int) + (1 : Int)).toNat (List.take (↑x.1.length : Int).toNat x.1)) ≤ (255 : Int)) ∧
 (g.1, pu41V (List.drop ((↑((114 : Int) :: List.map._f (fun b ↦ (↑b.toNat : Int)) ((117 : UInt8) :: (110 : UInt8) :: ([] : List UInt8)) (List.rec ⟨([] : List Int), PUnit.unit⟩ (fun head tail tail_ih ↦ ⟨List.map._f (fun b ↦ (↑b.toNat : Int)) (head :: tail) tail_ih, tail_ih⟩) ((110 : UInt8) :: ([] : List UInt8)))).length : Int) + (1 : Int)).toNat (List.take (↑x.1.length : Int).toNat x.1)), (0 : Int), pu41V (List.drop ((↑((114 : Int) :: List.map._f (fun b ↦ (↑b.toNat : Int)) ((117 : UInt8) :: (110 : UInt8) :: ([] : List UInt8)) (List.rec ⟨([] : List Int), PUnit.unit⟩ (fun head tail tail_ih ↦ ⟨List.map._f (fun b ↦ (↑b.toNat : Int)) (head :: tail) tail_ih, tail_ih⟩) ((110 : UInt8) :: ([] : List UInt8)))).length : Int) + (1 : Int)).toNat (List.take (↑x.1.length : Int).toNat x.1))) = (zreadB x.1).1 ∧
 true = (zreadB x.1).2) ∧
 ((g.1 == (1 : Int)) = false →
 (g.1, pu41V (List.drop ((↑((114 : Int) :: List.map._f (fun b ↦ (↑b.toNat : Int)) ((117 : UInt8) :: (110 : UInt8) :: ([] : List UInt8)) (List.rec ⟨([] : List Int), PUnit.unit⟩ (fun head tail tail_ih ↦ ⟨List.map._f (fun b ↦ (↑b.toNat : Int)) (head :: tail) tail_ih, tail_ih⟩) ((110 : UInt8) :: ([] : List UInt8)))).length : Int) + (1 : Int)).toNat (List.take (↑x.1.length : Int).toNat x.1)), (0 : Int), (0 : Int)) = (zreadB x.1).1 ∧
 true = (zreadB x.1).2))) ∧
 ((g.1 == (1 : Int)) = !true →
 ((-9223372036854775808 : Int) ≤ pu41V (List.drop ((↑((114 : Int) :: List.map._f (fun b ↦ (↑b.toNat : Int)) ((117 : UInt8) :: (110 : UInt8) :: ([] : List UInt8)) (List.rec ⟨([] : List Int), PUnit.unit⟩ (fun head tail tail_ih ↦ ⟨List.map._f (fun b ↦ (↑b.toNat : Int)) (head :: tail) tail_ih, tail_ih⟩) ((110 : UInt8) :: ([] : List UInt8)))).length : Int) + (1 : Int)).toNat (List.take (↑x.1.length : Int).toNat x.1)) ∧
 pu41V (List.drop ((↑((114 : Int) :: List.map._f (fun b ↦ (↑b.toNat : Int)) ((117 : UInt8) :: (110 : UInt8) :: ([] : List UInt8)) (List.rec ⟨([] : List Int), PUnit.unit⟩ (fun head tail tail_ih ↦ ⟨List.map._f (fun b ↦ (↑b.toNat : Int)) (head :: tail) tail_ih, tail_ih⟩) ((110 : UInt8) :: ([] : List UInt8)))).length : Int) + (1 : Int)).toNat (List.take (↑x.1.length : Int).toNat x.1)) ≤ (9223372036854775807 : Int)) ∧
 ((g.1 == (1 : Int)) = true →
 ((0 : Int) ≤ pu41V (List.drop ((↑((114 : Int) :: List.map._f (fun b ↦ (↑b.toNat : Int)) ((117 : UInt8) :: (110 : UInt8) :: ([] : List UInt8)) (List.rec ⟨([] : List Int), PUnit.unit⟩ (fun head tail tail_ih ↦ ⟨List.map._f (fun b ↦ (↑b.toNat : Int)) (head :: tail) tail_ih, tail_ih⟩) ((110 : UInt8) :: ([] : List UInt8)))).length : Int) + (1 : Int)).toNat (List.take (↑x.1.length : Int).toNat x.1)) ∧
 pu41V (List.drop ((↑((114 : Int) :: List.map._f (fun b ↦ (↑b.toNat : Int)) ((117 : UInt8) :: (110 : UInt8) :: ([] : List UInt8)) (List.rec ⟨([] : List Int), PUnit.unit⟩ (fun head tail tail_ih ↦ ⟨List.map._f (fun b ↦ (↑b.toNat : Int)) (head :: tail) tail_ih, tail_ih⟩) ((110 : UInt8) :: ([] : List UInt8)))).length : Int) + (1 : Int)).toNat (List.take (↑x.1.length : Int).toNat x.1)) ≤ (255 : Int)) ∧
 (g.1, pu41V (List.drop ((↑((114 : Int) :: List.map._f (fun b ↦ (↑b.toNat : Int)) ((117 : UInt8) :: (110 : UInt8) :: ([] : List UInt8)) (List.rec ⟨([] : List Int), PUnit.unit⟩ (fun head tail tail_ih ↦ ⟨List.map._f (fun b ↦ (↑b.toNat : Int)) (head :: tail) tail_ih, tail_ih⟩) ((110 : UInt8) :: ([] : List UInt8)))).length : Int) + (1 : Int)).toNat (List.take (↑x.1.length : Int).toNat x.1)), (0 : Int), pu41V (List.drop ((↑((114 : Int) :: List.map._f (fun b ↦ (↑b.toNat : Int)) ((117 : UInt8) :: (110 : UInt8) :: ([] : List UInt8)) (List.rec ⟨([] : List Int), PUnit.unit⟩ (fun head tail tail_ih ↦ ⟨List.map._f (fun b ↦ (↑b.toNat : Int)) (head :: tail) tail_ih, tail_ih⟩) ((110 : UInt8) :: ([] : List UInt8)))).length : Int) + (1 : Int)).toNat (List.take (↑x.1.length : Int).toNat x.1))) = (zreadB x.1).1 ∧
 true = (zreadB x.1).2) ∧
 ((g.1 == (1 : Int)) = false →
 (g.1, pu41V (List.drop ((↑((114 : Int) :: List.map._f (fun b ↦ (↑b.toNat : Int)) ((117 : UInt8) :: (110 : UInt8) :: ([] : List UInt8)) (List.rec ⟨([] : List Int), PUnit.unit⟩ (fun head tail tail_ih ↦ ⟨List.map._f (fun b ↦ (↑b.toNat : Int)) (head :: tail) tail_ih, tail_ih⟩) ((110 : UInt8) :: ([] : List UInt8)))).length : Int) + (1 : Int)).toNat (List.take (↑x.1.length : Int).toNat x.1)), (0 : Int), (0 : Int)) = (zreadB x.1).1 ∧
 true = (zreadB x.1).2))) ∧
 ((!decide (dec (pu41V (List.drop ((↑((114 : Int) :: List.map._f (fun b ↦ (↑b.toNat : Int)) ((117 : UInt8) :: (110 : UInt8) :: ([] : List UInt8)) (List.rec ⟨([] : List Int), PUnit.unit⟩ (fun head tail tail_ih ↦ ⟨List.map._f (fun b ↦ (↑b.toNat : Int)) (head :: tail) tail_ih, tail_ih⟩) ((110 : UInt8) :: ([] : List UInt8)))).length : Int) + (1 : Int)).toNat (List.take (↑x.1.length : Int).toNat x.1))) = List.drop ((↑((114 : Int) :: List.map._f (fun b ↦ (↑b.toNat : Int)) ((117 : UInt8) :: (110 : UInt8) :: ([] : List UInt8)) (List.rec ⟨([] : List Int), PUnit.unit⟩ (fun head tail tail_ih ↦ ⟨List.map._f (fun b ↦ (↑b.toNat : Int)) (head :: tail) tail_ih, tail_ih⟩) ((110 : UInt8) :: ([] : List UInt8)))).length : Int) + (1 : Int)).toNat (List.take (↑x.1.length : Int).toNat x.1))) = !false →
 ((0 : Int), (0 : Int), (0 : Int), (0 : Int)) = (zreadB x.1).1 ∧
 false = (zreadB x.1).2)) ∧
 (decide ((1099511627776 : Int) < pu41V (List.drop ((↑((114 : Int) :: List.map._f (fun b ↦ (↑b.toNat : Int)) ((117 : UInt8) :: (110 : UInt8) :: ([] : List UInt8)) (List.rec ⟨([] : List Int), PUnit.unit⟩ (fun head tail tail_ih ↦ ⟨List.map._f (fun b ↦ (↑b.toNat : Int)) (head :: tail) tail_ih, tail_ih⟩) ((110 : UInt8) :: ([] : List UInt8)))).length : Int) + (1 : Int)).toNat (List.take (↑x.1.length : Int).toNat x.1))) = !false →
 ((0 : Int), (0 : Int), (0 : Int), (0 : Int)) = (zreadB x.1).1 ∧
 false = (zreadB x.1).2)) ∧
 (pu41E (List.drop ((↑((114 : Int) :: List.map._f (fun b ↦ (↑b.toNat : Int)) ((117 : UInt8) :: (110 : UInt8) :: ([] : List UInt8)) (List.rec ⟨([] : List Int), PUnit.unit⟩ (fun head tail tail_ih ↦ ⟨List.map._f (fun b ↦ (↑b.toNat : Int)) (head :: tail) tail_ih, tail_ih⟩) ((110 : UInt8) :: ([] : List UInt8)))).length : Int) + (1 : Int)).toNat (List.take (↑x.1.length : Int).toNat x.1)) = !false →
 ((0 : Int), (0 : Int), (0 : Int), (0 : Int)) = (zreadB x.1).1 ∧
 false = (zreadB x.1).2))) ∧
 ((g.1 == (2 : Int)) = false →
 ((g.1 == (3 : Int)) = true →
 ((-9223372036854775808 : Int) ≤ (↑((114 : Int) :: List.map._f (fun b ↦ (↑b.toNat : Int)) ((101 : UInt8) :: (97 : UInt8) :: (100 : UInt8) :: ([] : List UInt8)) (List.rec ⟨([] : List Int), PUnit.unit⟩ (fun head tail tail_ih ↦ ⟨List.map._f (fun b ↦ (↑b.toNat : Int)) (head :: tail) tail_ih, tail_ih⟩) ((97 : UInt8) :: (100 : UInt8) :: ([] : List UInt8)))).length : Int) + (1 : Int) ∧
 (↑((114 : Int) :: List.map._f (fun b ↦ (↑b.toNat : Int)) ((101 : UInt8) :: (97 : UInt8) :: (100 : UInt8) :: ([] : List UInt8)) (List.rec ⟨([] : List Int), PUnit.unit⟩ (fun head tail tail_ih ↦ ⟨List.map._f (fun b ↦ (↑b.toNat : Int)) (head :: tail) tail_ih, tail_ih⟩) ((97 : UInt8) :: (100 : UInt8) :: ([] : List UInt8)))).length : Int) + (1 : Int) ≤ (9223372036854775807 : Int)) ∧
 ((!decide ((↑x.1.length : Int) ≤ (↑((114 : Int) :: List.map._f (fun b ↦ (↑b.toNat : Int)) ((101 : UInt8) :: (97 : UInt8) :: (100 : UInt8) :: ([] : List UInt8)) (List.rec ⟨([] : List Int), PUnit.unit⟩ (fun head tail tail_ih ↦ ⟨List.map._f (fun b ↦ (↑b.toNat : Int)) (head :: tail) tail_ih, tail_ih⟩) ((97 : UInt8) :: (100 : UInt8) :: ([] : List UInt8)))).length : Int) + (1 : Int))) = true →
 (!decide ((↑x.1.length : Int) ≤ (↑((114 : Int) :: List.map._f (fun b ↦ (↑b.toNat : Int)) ((101 : UInt8) :: (97 : UInt8) :: (100 : UInt8) :: ([] : List UInt8)) (List.rec ⟨([] : List Int), PUnit.unit⟩ (fun head tail tail_ih ↦ ⟨List.map._f (fun b ↦ (↑b.toNat : Int)) (head :: tail) tail_ih, tail_ih⟩) ((97 : UInt8) :: (100 : UInt8) :: ([] : List UInt8)))).length : Int) + (1 : Int))) = true) ∧
 ((!decide ((↑x.1.length : Int) ≤ (↑((114 : Int) :: List.map._f (fun b ↦ (↑b.toNat : Int)) ((101 : UInt8) :: (97 : UInt8) :: (100 : UInt8) :: ([] : List UInt8)) (List.rec ⟨([] : List Int), PUnit.unit⟩ (fun head tail tail_ih ↦ ⟨List.map._f (fun b ↦ (↑b.toNat : Int)) (head :: tail) tail_ih, tail_ih⟩) ((97 : UInt8) :: (100 : UInt8) :: ([] : List UInt8)))).length : Int) + (1 : Int))) = true →
 (!decide ((↑x.1.length : Int) ≤ (↑((114 : Int) :: List.map._f (fun b ↦ (↑b.toNat : Int)) ((101 : UInt8) :: (97 : UInt8) :: (100 : UInt8) :: ([] : List UInt8)) (List.rec ⟨([] : List Int), PUnit.unit⟩ (fun head tail tail_ih ↦ ⟨List.map._f (fun b ↦ (↑b.toNat : Int)) (head :: tail) tail_ih, tail_ih⟩) ((97 : UInt8) :: (100 : UInt8) :: ([] : List UInt8)))).length : Int) + (1 : Int))) = true ∧
 (-9223372036854775808 : Int) ≤ (↑((114 : Int) :: List.map._f (fun b ↦ (↑b.toNat : Int)) ((101 : UInt8) :: (97 : UInt8) :: (100 : UInt8) :: ([] : List UInt8)) (List.rec ⟨([] : List Int), PUnit.unit⟩ (fun head tail tail_ih ↦ ⟨List.map._f (fun b ↦ (↑b.toNat : Int)) (head :: tail) tail_ih, tail_ih⟩) ((97 : UInt8) :: (100 : UInt8) :: ([] : List UInt8)))).length : Int) + (1 : Int) ∧
 (↑((114 : Int) :: List.map._f (fun b ↦ (↑b.toNat : Int)) ((101 : UInt8) :: (97 : UInt8) :: (100 : UInt8) :: ([] : List UInt8)) (List.rec ⟨([] : List Int), PUnit.unit⟩ (fun head tail tail_ih ↦ ⟨List.map._f (fun b ↦ (↑b.toNat : Int)) (head :: tail) tail_ih, tail_ih⟩) ((97 : UInt8) :: (100 : UInt8) :: ([] : List UInt8)))).length : Int) + (1 : Int) ≤ (9223372036854775807 : Int)) ∧
 ((!decide ((↑x.1.length : Int) ≤ (↑((114 : Int) :: List.map._f (fun b ↦ (↑b.toNat : Int)) ((101 : UInt8) :: (97 : UInt8) :: (100 : UInt8) :: ([] : List UInt8)) (List.rec ⟨([] : List Int), PUnit.unit⟩ (fun head tail tail_ih ↦ ⟨List.map._f (fun b ↦ (↑b.toNat : Int)) (head :: tail) tail_ih, tail_ih⟩) ((97 : UInt8) :: (100 : UInt8) :: ([] : List UInt8)))).length : Int) + (1 : Int))) = true →
 ((!decide ((↑x.1.length : Int) ≤ (↑((114 : Int) :: List.map._f (fun b ↦ (↑b.toNat : Int)) ((101 : UInt8) :: (97 : UInt8) :: (100 : UInt8) :: ([] : List UInt8)) (List.rec ⟨([] : List Int), PUnit.unit⟩ (fun head tail tail_ih ↦ ⟨List.map._f (fun b ↦ (↑b.toNat : Int)) (head :: tail) tail_ih, tail_ih⟩) ((97 : UInt8) :: (100 : UInt8) :: ([] : List UInt8)))).length : Int) + (1 : Int))) = true ∧
 (!decide ((↑x.1.length : Int) ≤ (↑((114 : Int) :: List.map._f (fun b ↦ (↑b.toNat : Int)) ((101 : UInt8) :: (97 : UInt8) :: (100 : UInt8) :: ([] : List UInt8)) (List.rec ⟨([] : List Int), PUnit.unit⟩ (fun head tail tail_ih ↦ ⟨List.map._f (fun b ↦ (↑b.toNat : Int)) (head :: tail) tail_ih, tail_ih⟩) ((97 : UInt8) :: (100 : UInt8) :: ([] : List UInt8)))).length : Int) + (1 : Int))) = true) ∧
 ((0 : Int) ≤ (0 : Int) ∧
 (0 : Int) ≤ (↑((114 : Int) :: List.map._f (fun b ↦ (↑b.toNat : Int)) ((101 : UInt8) :: (97 : UInt8) :: (100 : UInt8) :: ([] : List UInt8)) (List.rec ⟨([] : List Int), PUnit.unit⟩ (fun head tail tail_ih ↦ ⟨List.map._f (fun b ↦ (↑b.toNat : Int)) (head :: tail) tail_ih, tail_ih⟩) ((97 : UInt8) :: (100 : UInt8) :: ([] : List UInt8)))).length : Int) + (1 : Int)) ∧
 (↑((114 : Int) :: List.map._f (fun b ↦ (↑b.toNat : Int)) ((101 : UInt8) :: (97 : UInt8) :: (100 : UInt8) :: ([] : List UInt8)) (List.rec ⟨([] : List Int), PUnit.unit⟩ (fun head tail tail_ih ↦ ⟨List.map._f (fun b ↦ (↑b.toNat : Int)) (head :: tail) tail_ih, tail_ih⟩) ((97 : UInt8) :: (100 : UInt8) :: ([] : List UInt8)))).length : Int) + (1 : Int) ≤ (↑x.1.length : Int)) ∧
 ((!decide ((↑x.1.length : Int) ≤ (↑((114 : Int) :: List.map._f (fun b ↦ (↑b.toNat : Int)) ((101 : UInt8) :: (97 : UInt8) :: (100 : UInt8) :: ([] : List UInt8)) (List.rec ⟨([] : List Int), PUnit.unit⟩ (fun head tail tail_ih ↦ ⟨List.map._f (fun b ↦ (↑b.toNat : Int)) (head :: tail) tail_ih, tail_ih⟩) ((97 : UInt8) :: (100 : UInt8) :: ([] : List UInt8)))).length : Int) + (1 : Int))) = true →
 (!decide ((↑x.1.length : Int) ≤ (↑((114 : Int) :: List.map._f (fun b ↦ (↑b.toNat : Int)) ((101 : UInt8) :: (97 : UInt8) :: (100 : UInt8) :: ([] : List UInt8)) (List.rec ⟨([] : List Int), PUnit.unit⟩ (fun head tail tail_ih ↦ ⟨List.map._f (fun b ↦ (↑b.toNat : Int)) (head :: tail) tail_ih, tail_ih⟩) ((97 : UInt8) :: (100 : UInt8) :: ([] : List UInt8)))).length : Int) + (1 : Int))) = true ∧
 ((114 : Int) :: List.map._f (fun b ↦ (↑b.toNat : Int)) ((101 : UInt8) :: (97 : UInt8) :: (100 : UInt8) :: ([] : List UInt8)) (List.rec ⟨([] : List Int), PUnit.unit⟩ (fun head tail tail_ih ↦ ⟨List.map._f (fun b ↦ (↑b.toNat : Int)) (head :: tail) tail_ih, tail_ih⟩) ((97 : UInt8) :: (100 : UInt8) :: ([] : List UInt8)))).length + ((32 : Int) :: ([] : List Int)).length ≤ (9223372036854775807 : Nat)) ∧
 ((!decide ((↑x.1.length : Int) ≤ (↑((114 : Int) :: List.map._f (fun b ↦ (↑b.toNat : Int)) ((101 : UInt8) :: (97 : UInt8) :: (100 : UInt8) :: ([] : List UInt8)) (List.rec ⟨([] : List Int), PUnit.unit⟩ (fun head tail tail_ih ↦ ⟨List.map._f (fun b ↦ (↑b.toNat : Int)) (head :: tail) tail_ih, tail_ih⟩) ((97 : UInt8) :: (100 : UInt8) :: ([] : List UInt8)))).length : Int) + (1 : Int))) = true →
 (!decide ((↑x.1.length : Int) ≤ (↑((114 : Int) :: List.map._f (fun b ↦ (↑b.toNat : Int)) ((101 : UInt8) :: (97 : UInt8) :: (100 : UInt8) :: ([] : List UInt8)) (List.rec ⟨([] : List Int), PUnit.unit⟩ (fun head tail tail_ih ↦ ⟨List.map._f (fun b ↦ (↑b.toNat : Int)) (head :: tail) tail_ih, tail_ih⟩) ((97 : UInt8) :: (100 : UInt8) :: ([] : List UInt8)))).length : Int) + (1 : Int))) = true ∧
 (!decide ((↑x.1.length : Int) ≤ (↑((114 : Int) :: List.map._f (fun b ↦ (↑b.toNat : Int)) ((101 : UInt8) :: (97 : UInt8) :: (100 : UInt8) :: ([] : List UInt8)) (List.rec ⟨([] : List Int), PUnit.unit⟩ (fun head tail tail_ih ↦ ⟨List.map._f (fun b ↦ (↑b.toNat : Int)) (head :: tail) tail_ih, tail_ih⟩) ((97 : UInt8) :: (100 : UInt8) :: ([] : List UInt8)))).length : Int) + (1 : Int))) = true) ∧
 (decide ((↑x.1.length : Int) ≤ (↑((114 : Int) :: List.map._f (fun b ↦ (↑b.toNat : Int)) ((101 : UInt8) :: (97 : UInt8) :: (100 : UInt8) :: ([] : List UInt8)) (List.rec ⟨([] : List Int), PUnit.unit⟩ (fun head tail tail_ih ↦ ⟨List.map._f (fun b ↦ (↑b.toNat : Int)) (head :: tail) tail_ih, tail_ih⟩) ((97 : UInt8) :: (100 : UInt8) :: ([] : List UInt8)))).length : Int) + (1 : Int)) = false →
 (!decide ((↑x.1.length : Int) ≤ (↑((114 : Int) :: List.map._f (fun b ↦ (↑b.toNat : Int)) ((101 : UInt8) :: (97 : UInt8) :: (100 : UInt8) :: ([] : List UInt8)) (List.rec ⟨([] : List Int), PUnit.unit⟩ (fun head tail tail_ih ↦ ⟨List.map._f (fun b ↦ (↑b.toNat : Int)) (head :: tail) tail_ih, tail_ih⟩) ((97 : UInt8) :: (100 : UInt8) :: ([] : List UInt8)))).length : Int) + (1 : Int))) = true) ∧
 ((decide ((↑x.1.length : Int) ≤ (↑((114 : Int) :: List.map._f (fun b ↦ (↑b.toNat : Int)) ((101 : UInt8) :: (97 : UInt8) :: (100 : UInt8) :: ([] : List UInt8)) (List.rec ⟨([] : List Int), PUnit.unit⟩ (fun head tail tail_ih ↦ ⟨List.map._f (fun b ↦ (↑b.toNat : Int)) (head :: tail) tail_ih, tail_ih⟩) ((97 : UInt8) :: (100 : UInt8) :: ([] : List UInt8)))).length : Int) + (1 : Int)) || !decide (List.drop (Int.toNat (0 : Int)) (List.take ((↑((114 : Int) :: List.map._f (fun b ↦ (↑b.toNat : Int)) ((101 : UInt8) :: (97 : UInt8) :: (100 : UInt8) :: ([] : List UInt8)) (List.rec ⟨([] : List Int), PUnit.unit⟩ (fun head tail tail_ih ↦ ⟨List.map._f (fun b ↦ (↑b.toNat : Int)) (head :: tail) tail_ih, tail_ih⟩) ((97 : UInt8) :: (100 : UInt8) :: ([] : List UInt8)))).length : Int) + (1 : Int)).toNat x.1) = (114 : Int) :: List.map._f (fun b ↦ (↑b.toNat : Int)) ((101 : UInt8) :: (97 : UInt8) :: (100 : UInt8) :: ([] : List UInt8)) (List.rec ⟨([] : List Int), PUnit.unit⟩ (fun head tail tail_ih ↦ ⟨List.map._f (fun b ↦ (↑b.toNat : Int)) (head :: tail) tail_ih, tail_ih⟩) ((97 : UInt8) :: (100 : UInt8) :: ([] : List UInt8))) ++ (32 : Int) :: ([] : List Int))) = true →
 ((-9223372036854775808 : Int) ≤ g.1 + (1 : Int) ∧
 g.1 + (1 : Int) ≤ (9223372036854775807 : Int)) ∧
 (((1 : Int) ≤ g.1 + (1 : Int) ∧
 g.1 + (1 : Int) ≤ (7 : Int) ∧
 zreadB x.1 = zreadO x.1 ((7 : Int) - (g.1 + (1 : Int))).toNat) ∧
 ((7 : Int) - (g.1 + (1 : Int))).toNat < ((7 : Int) - g.1).toNat) ∧
 (x.1 = x.1 ∧
 (True ∧
 True) ∧
 g.1 + (1 : Int) = g.1 + (1 : Int) ∧
 True) ∧
 ((RR (0 : Int) ∧
 RR (0 : Int) ∧
 RR (0 : Int) ∧
 RR (0 : Int) ∧
 True) ∧
 True) ∧
 True) ∧
 ((decide ((↑x.1.length : Int) ≤ (↑((114 : Int) :: List.map._f (fun b ↦ (↑b.toNat : Int)) ((101 : UInt8) :: (97 : UInt8) :: (100 : UInt8) :: ([] : List UInt8)) (List.rec ⟨([] : List Int), PUnit.unit⟩ (fun head tail tail_ih ↦ ⟨List.map._f (fun b ↦ (↑b.toNat : Int)) (head :: tail) tail_ih, tail_ih⟩) ((97 : UInt8) :: (100 : UInt8) :: ([] : List UInt8)))).length : Int) + (1 : Int)) || !decide (List.drop (Int.toNat (0 : Int)) (List.take ((↑((114 : Int) :: List.map._f (fun b ↦ (↑b.toNat : Int)) ((101 : UInt8) :: (97 : UInt8) :: (100 : UInt8) :: ([] : List UInt8)) (List.rec ⟨([] : List Int), PUnit.unit⟩ (fun head tail tail_ih ↦ ⟨List.map._f (fun b ↦ (↑b.toNat : Int)) (head :: tail) tail_ih, tail_ih⟩) ((97 : UInt8) :: (100 : UInt8) :: ([] : List UInt8)))).length : Int) + (1 : Int)).toNat x.1) = (114 : Int) :: List.map._f (fun b ↦ (↑b.toNat : Int)) ((101 : UInt8) :: (97 : UInt8) :: (100 : UInt8) :: ([] : List UInt8)) (List.rec ⟨([] : List Int), PUnit.unit⟩ (fun head tail tail_ih ↦ ⟨List.map._f (fun b ↦ (↑b.toNat : Int)) (head :: tail) tail_ih, tail_ih⟩) ((97 : UInt8) :: (100 : UInt8) :: ([] : List UInt8))) ++ (32 : Int) :: ([] : List Int))) = false →
 ((-9223372036854775808 : Int) ≤ (↑((114 : Int) :: List.map._f (fun b ↦ (↑b.toNat : Int)) ((101 : UInt8) :: (97 : UInt8) :: (100 : UInt8) :: ([] : List UInt8)) (List.rec ⟨([] : List Int), PUnit.unit⟩ (fun head tail tail_ih ↦ ⟨List.map._f (fun b ↦ (↑b.toNat : Int)) (head :: tail) tail_ih, tail_ih⟩) ((97 : UInt8) :: (100 : UInt8) :: ([] : List UInt8)))).length : Int) + (1 : Int) ∧
 (↑((114 : Int) :: List.map._f (fun b ↦ (↑b.toNat : Int)) ((101 : UInt8) :: (97 : UInt8) :: (100 : UInt8) :: ([] : List UInt8)) (List.rec ⟨([] : List Int), PUnit.unit⟩ (fun head tail tail_ih ↦ ⟨List.map._f (fun b ↦ (↑b.toNat : Int)) (head :: tail) tail_ih, tail_ih⟩) ((97 : UInt8) :: (100 : UInt8) :: ([] : List UInt8)))).length : Int) + (1 : Int) ≤ (9223372036854775807 : Int)) ∧
 (((0 : Int) ≤ (↑((114 : Int) :: List.map._f (fun b ↦ (↑b.toNat : Int)) ((101 : UInt8) :: (97 : UInt8) :: (100 : UInt8) :: ([] : List UInt8)) (List.rec ⟨([] : List Int), PUnit.unit⟩ (fun head tail tail_ih ↦ ⟨List.map._f (fun b ↦ (↑b.toNat : Int)) (head :: tail) tail_ih, tail_ih⟩) ((97 : UInt8) :: (100 : UInt8) :: ([] : List UInt8)))).length : Int) + (1 : Int) ∧
 (↑((114 : Int) :: List.map._f (fun b ↦ (↑b.toNat : Int)) ((101 : UInt8) :: (97 : UInt8) :: (100 : UInt8) :: ([] : List UInt8)) (List.rec ⟨([] : List Int), PUnit.unit⟩ (fun head tail tail_ih ↦ ⟨List.map._f (fun b ↦ (↑b.toNat : Int)) (head :: tail) tail_ih, tail_ih⟩) ((97 : UInt8) :: (100 : UInt8) :: ([] : List UInt8)))).length : Int) + (1 : Int) ≤ (↑x.1.length : Int)) ∧
 (↑x.1.length : Int) ≤ (↑x.1.length : Int)) ∧
 Holds ((List.drop ((↑((114 : Int) :: List.map._f (fun b ↦ (↑b.toNat : Int)) ((101 : UInt8) :: (97 : UInt8) :: (100 : UInt8) :: ([] : List UInt8)) (List.rec ⟨([] : List Int), PUnit.unit⟩ (fun head tail tail_ih ↦ ⟨List.map._f (fun b ↦ (↑b.toNat : Int)) (head :: tail) tail_ih, tail_ih⟩) ((97 : UInt8) :: (100 : UInt8) :: ([] : List UInt8)))).length : Int) + (1 : Int)).toNat (List.take (↑x.1.length : Int).toNat x.1)).length ≤ (1048576 : Nat) ∧
 RR (10 : Int) ∧
 (41 : Int) = (41 : Int)) ∧
 (pu41E (List.drop ((↑((114 : Int) :: List.map._f (fun b ↦ (↑b.toNat : Int)) ((101 : UInt8) :: (97 : UInt8) :: (100 : UInt8) :: ([] : List UInt8)) (List.rec ⟨([] : List Int), PUnit.unit⟩ (fun head tail tail_ih ↦ ⟨List.map._f (fun b ↦ (↑b.toNat : Int)) (head :: tail) tail_ih, tail_ih⟩) ((97 : UInt8) :: (100 : UInt8) :: ([] : List UInt8)))).length : Int) + (1 : Int)).toNat (List.take (↑x.1.length : Int).toNat x.1)) = false →
 (decide ((1099511627776 : Int) < pu41V (List.drop ((↑((114 : Int) :: List.map._f (fun b ↦ (↑b.toNat : Int)) ((101 : UInt8) :: (97 : UInt8) :: (100 : UInt8) :: ([] : List UInt8)) (List.rec ⟨([] : List Int), PUnit.unit⟩ (fun head tail tail_ih ↦ ⟨List.map._f (fun b ↦ (↑b.toNat : Int)) (head :: tail) tail_ih, tail_ih⟩) ((97 : UInt8) :: (100 : UInt8) :: ([] : List UInt8)))).length : Int) + (1 : Int)).toNat (List.take (↑x.1.length : Int).toNat x.1))) = false →
 Holds (pu41V (List.drop ((↑((114 : Int) :: List.map._f (fun b ↦ (↑b.toNat : Int)) ((101 : UInt8) :: (97 : UInt8) :: (100 : UInt8) :: ([] : List UInt8)) (List.rec ⟨([] : List Int), PUnit.unit⟩ (fun head tail tail_ih ↦ ⟨List.map._f (fun b ↦ (↑b.toNat : Int)) (head :: tail) tail_ih, tail_ih⟩) ((97 : UInt8) :: (100 : UInt8) :: ([] : List UInt8)))).length : Int) + (1 : Int)).toNat (List.take (↑x.1.length : Int).toNat x.1)) ≤ (1099511627776 : Int) ∧
 (10 : Int) = (10 : Int)) ∧
 ((-9223372036854775808 : Int) ≤ (↑((114 : Int) :: List.map._f (fun b ↦ (↑b.toNat : Int)) ((101 : UInt8) :: (97 : UInt8) :: (100 : UInt8) :: ([] : List UInt8)) (List.rec ⟨([] : List Int), PUnit.unit⟩ (fun head tail tail_ih ↦ ⟨List.map._f (fun b ↦ (↑b.toNat : Int)) (head :: tail) tail_ih, tail_ih⟩) ((97 : UInt8) :: (100 : UInt8) :: ([] : List UInt8)))).length : Int) + (1 : Int) ∧
 (↑((114 : Int) :: List.map._f (fun b ↦ (↑b.toNat : Int)) ((101 : UInt8) :: (97 : UInt8) :: (100 : UInt8) :: ([] : List UInt8)) (List.rec ⟨([] : List Int), PUnit.unit⟩ (fun head tail tail_ih ↦ ⟨List.map._f (fun b ↦ (↑b.toNat : Int)) (head :: tail) tail_ih, tail_ih⟩) ((97 : UInt8) :: (100 : UInt8) :: ([] : List UInt8)))).length : Int) + (1 : Int) ≤ (9223372036854775807 : Int)) ∧
 (((0 : Int) ≤ (↑((114 : Int) :: List.map._f (fun b ↦ (↑b.toNat : Int)) ((101 : UInt8) :: (97 : UInt8) :: (100 : UInt8) :: ([] : List UInt8)) (List.rec ⟨([] : List Int), PUnit.unit⟩ (fun head tail tail_ih ↦ ⟨List.map._f (fun b ↦ (↑b.toNat : Int)) (head :: tail) tail_ih, tail_ih⟩) ((97 : UInt8) :: (100 : UInt8) :: ([] : List UInt8)))).length : Int) + (1 : Int) ∧
 (↑((114 : Int) :: List.map._f (fun b ↦ (↑b.toNat : Int)) ((101 : UInt8) :: (97 : UInt8) :: (100 : UInt8) :: ([] : List UInt8)) (List.rec ⟨([] : List Int), PUnit.unit⟩ (fun head tail tail_ih ↦ ⟨List.map._f (fun b ↦ (↑b.toNat : Int)) (head :: tail) tail_ih, tail_ih⟩) ((97 : UInt8) :: (100 : UInt8) :: ([] : List UInt8)))).length : Int) + (1 : Int) ≤ (↑x.1.length : Int)) ∧
 (↑x.1.length : Int) ≤ (↑x.1.length : Int)) ∧
 ((!decide (dec (pu41V (List.drop ((↑((114 : Int) :: List.map._f (fun b ↦ (↑b.toNat : Int)) ((101 : UInt8) :: (97 : UInt8) :: (100 : UInt8) :: ([] : List UInt8)) (List.rec ⟨([] : List Int), PUnit.unit⟩ (fun head tail tail_ih ↦ ⟨List.map._f (fun b ↦ (↑b.toNat : Int)) (head :: tail) tail_ih, tail_ih⟩) ((97 : UInt8) :: (100 : UInt8) :: ([] : List UInt8)))).length : Int) + (1 : Int)).toNat (List.take (↑x.1.length : Int).toNat x.1))) = List.drop ((↑((114 : Int) :: List.map._f (fun b ↦ (↑b.toNat : Int)) ((101 : UInt8) :: (97 : UInt8) :: (100 : UInt8) :: ([] : List UInt8)) (List.rec ⟨([] : List Int), PUnit.unit⟩ (fun head tail tail_ih ↦ ⟨List.map._f (fun b ↦ (↑b.toNat : Int)) (head :: tail) tail_ih, tail_ih⟩) ((97 : UInt8) :: (100 : UInt8) :: ([] : List UInt8)))).length : Int) + (1 : Int)).toNat (List.take (↑x.1.length : Int).toNat x.1))) = false →
 ((g.1 == (1 : Int)) = true →
 (decide ((255 : Int) < pu41V (List.drop ((↑((114 : Int) :: List.map._f (fun b ↦ (↑b.toNat : Int)) ((101 : UInt8) :: (97 : UInt8) :: (100 : UInt8) :: ([] : List UInt8)) (List.rec ⟨([] : List Int), PUnit.unit⟩ (fun head tail tail_ih ↦ ⟨List.map._f (fun b ↦ (↑b.toNat : Int)) (head :: tail) tail_ih, tail_ih⟩) ((97 : UInt8) :: (100 : UInt8) :: ([] : List UInt8)))).length : Int) + (1 : Int)).toNat (List.take (↑x.1.length : Int).toNat x.1))) = true →
 ((0 : Int), (0 : Int), (0 : Int), (0 : Int)) = (zreadB x.1).1 ∧
 false = (zreadB x.1).2) ∧
 (decide ((255 : Int) < pu41V (List.drop ((↑((114 : Int) :: List.map._f (fun b ↦ (↑b.toNat : Int)) ((101 : UInt8) :: (97 : UInt8) :: (100 : UInt8) :: ([] : List UInt8)) (List.rec ⟨([] : List Int), PUnit.unit⟩ (fun head tail tail_ih ↦ ⟨List.map._f (fun b ↦ (↑b.toNat : Int)) (head :: tail) tail_ih, tail_ih⟩) ((97 : UInt8) :: (100 : UInt8) :: ([] : List UInt8)))).length : Int) + (1 : Int)).toNat (List.take (↑x.1.length : Int).toNat x.1))) = false →
 ((-9223372036854775808 : Int) ≤ pu41V (List.drop ((↑((114 : Int) :: List.map._f (fun b ↦ (↑b.toNat : Int)) ((101 : UInt8) :: (97 : UInt8) :: (100 : UInt8) :: ([] : List UInt8)) (List.rec ⟨([] : List Int), PUnit.unit⟩ (fun head tail tail_ih ↦ ⟨List.map._f (fun b ↦ (↑b.toNat : Int)) (head :: tail) tail_ih, tail_ih⟩) ((97 : UInt8) :: (100 : UInt8) :: ([] : List UInt8)))).length : Int) + (1 : Int)).toNat (List.take (↑x.1.length : Int).toNat x.1)) ∧
 pu41V (List.drop ((↑((114 : Int) :: List.map._f (fun b ↦ (↑b.toNat : Int)) ((101 : UInt8) :: (97 : UInt8) :: (100 : UInt8) :: ([] : List UInt8)) (List.rec ⟨([] : List Int), PUnit.unit⟩ (fun head tail tail_ih ↦ ⟨List.map._f (fun b ↦ (↑b.toNat : Int)) (head :: tail) tail_ih, tail_ih⟩) ((97 : UInt8) :: (100 : UInt8) :: ([] : List UInt8)))).length : Int) + (1 : Int)).toNat (List.take (↑x.1.length : Int).toNat x.1)) ≤ (9223372036854775807 : Int)) ∧
 ((g.1 == (1 : Int)) = true →
 ((0 : Int) ≤ pu41V (List.drop ((↑((114 : Int) :: List.map._f (fun b ↦ (↑b.toNat : Int)) ((101 : UInt8) :: (97 : UInt8) :: (100 : UInt8) :: ([] : List UInt8)) (List.rec ⟨([] : List Int), PUnit.unit⟩ (fun head tail tail_ih ↦ ⟨List.map._f (fun b ↦ (↑b.toNat : Int)) (head :: tail) tail_ih, tail_ih⟩) ((97 : UInt8) :: (100 : UInt8) :: ([] : List UInt8)))).length : Int) + (1 : Int)).toNat (List.take (↑x.1.length : Int).toNat x.1)) ∧
 pu41V (List.drop ((↑((114 : Int) :: List.map._f (fun b ↦ (↑b.toNat : Int)) ((101 : UInt8) :: (97 : UInt8) :: (100 : UInt8) :: ([] : List UInt8)) (List.rec ⟨([] : List Int), PUnit.unit⟩ (fun head tail tail_ih ↦ ⟨List.map._f (fun b ↦ (↑b.toNat : Int)) (head :: tail) tail_ih, tail_ih⟩) ((97 : UInt8) :: (100 : UInt8) :: ([] : List UInt8)))).length : Int) + (1 : Int)).toNat (List.take (↑x.1.length : Int).toNat x.1)) ≤ (255 : Int)) ∧
 (g.1, (0 : Int), pu41V (List.drop ((↑((114 : Int) :: List.map._f (fun b ↦ (↑b.toNat : Int)) ((101 : UInt8) :: (97 : UInt8) :: (100 : UInt8) :: ([] : List UInt8)) (List.rec ⟨([] : List Int), PUnit.unit⟩ (fun head tail tail_ih ↦ ⟨List.map._f (fun b ↦ (↑b.toNat : Int)) (head :: tail) tail_ih, tail_ih⟩) ((97 : UInt8) :: (100 : UInt8) :: ([] : List UInt8)))).length : Int) + (1 : Int)).toNat (List.take (↑x.1.length : Int).toNat x.1)), pu41V (List.drop ((↑((114 : Int) :: List.map._f (fun b ↦ (↑b.toNat : Int)) ((101 : UInt8) :: (97 : UInt8) :: (100 : UInt8) :: ([] : List UInt8)) (List.rec ⟨([] : List Int), PUnit.unit⟩ (fun head tail tail_ih ↦ ⟨List.map._f (fun b ↦ (↑b.toNat : Int)) (head :: tail) tail_ih, tail_ih⟩) ((97 : UInt8) :: (100 : UInt8) :: ([] : List UInt8)))).length : Int) + (1 : Int)).toNat (List.take (↑x.1.length : Int).toNat x.1))) = (zreadB x.1).1 ∧
 true = (zreadB x.1).2) ∧
 ((g.1 == (1 : Int)) = false →
 (g.1, (0 : Int), pu41V (List.drop ((↑((114 : Int) :: List.map._f (fun b ↦ (↑b.toNat : Int)) ((101 : UInt8) :: (97 : UInt8) :: (100 : UInt8) :: ([] : List UInt8)) (List.rec ⟨([] : List Int), PUnit.unit⟩ (fun head tail tail_ih ↦ ⟨List.map._f (fun b ↦ (↑b.toNat : Int)) (head :: tail) tail_ih, tail_ih⟩) ((97 : UInt8) :: (100 : UInt8) :: ([] : List UInt8)))).length : Int) + (1 : Int)).toNat (List.take (↑x.1.length : Int).toNat x.1)), (0 : Int)) = (zreadB x.1).1 ∧
 true = (zreadB x.1).2))) ∧
 ((g.1 == (1 : Int)) = !true →
 ((-9223372036854775808 : Int) ≤ pu41V (List.drop ((↑((114 : Int) :: List.map._f (fun b ↦ (↑b.toNat : Int)) ((101 : UInt8) :: (97 : UInt8) :: (100 : UInt8) :: ([] : List UInt8)) (List.rec ⟨([] : List Int), PUnit.unit⟩ (fun head tail tail_ih ↦ ⟨List.map._f (fun b ↦ (↑b.toNat : Int)) (head :: tail) tail_ih, tail_ih⟩) ((97 : UInt8) :: (100 : UInt8) :: ([] : List UInt8)))).length : Int) + (1 : Int)).toNat (List.take (↑x.1.length : Int).toNat x.1)) ∧
 pu41V (List.drop ((↑((114 : Int) :: List.map._f (fun b ↦ (↑b.toNat : Int)) ((101 : UInt8) :: (97 : UInt8) :: (100 : UInt8) :: ([] : List UInt8)) (List.rec ⟨([] : List Int), PUnit.unit⟩ (fun head tail tail_ih ↦ ⟨List.map._f (fun b ↦ (↑b.toNat : Int)) (head :: tail) tail_ih, tail_ih⟩) ((97 : UInt8) :: (100 : UInt8) :: ([] : List UInt8)))).length : Int) + (1 : Int)).toNat (List.take (↑x.1.length : Int).toNat x.1)) ≤ (9223372036854775807 : Int)) ∧
 ((g.1 == (1 : Int)) = true →
 ((0 : Int) ≤ pu41V (List.drop ((↑((114 : Int) :: List.map._f (fun b ↦ (↑b.toNat : Int)) ((101 : UInt8) :: (97 : UInt8) :: (100 : UInt8) :: ([] : List UInt8)) (List.rec ⟨([] : List Int), PUnit.unit⟩ (fun head tail tail_ih ↦ ⟨List.map._f (fun b ↦ (↑b.toNat : Int)) (head :: tail) tail_ih, tail_ih⟩) ((97 : UInt8) :: (100 : UInt8) :: ([] : List UInt8)))).length : Int) + (1 : Int)).toNat (List.take (↑x.1.length : Int).toNat x.1)) ∧
 pu41V (List.drop ((↑((114 : Int) :: List.map._f (fun b ↦ (↑b.toNat : Int)) ((101 : UInt8) :: (97 : UInt8) :: (100 : UInt8) :: ([] : List UInt8)) (List.rec ⟨([] : List Int), PUnit.unit⟩ (fun head tail tail_ih ↦ ⟨List.map._f (fun b ↦ (↑b.toNat : Int)) (head :: tail) tail_ih, tail_ih⟩) ((97 : UInt8) :: (100 : UInt8) :: ([] : List UInt8)))).length : Int) + (1 : Int)).toNat (List.take (↑x.1.length : Int).toNat x.1)) ≤ (255 : Int)) ∧
 (g.1, (0 : Int), pu41V (List.drop ((↑((114 : Int) :: List.map._f (fun b ↦ (↑b.toNat : Int)) ((101 : UInt8) :: (97 : UInt8) :: (100 : UInt8) :: ([] : List UInt8)) (List.rec ⟨([] : List Int), PUnit.unit⟩ (fun head tail tail_ih ↦ ⟨List.map._f (fun b ↦ (↑b.toNat : Int)) (head :: tail) tail_ih, tail_ih⟩) ((97 : UInt8) :: (100 : UInt8) :: ([] : List UInt8)))).length : Int) + (1 : Int)).toNat (List.take (↑x.1.length : Int).toNat x.1)), pu41V (List.drop ((↑((114 : Int) :: List.map._f (fun b ↦ (↑b.toNat : Int)) ((101 : UInt8) :: (97 : UInt8) :: (100 : UInt8) :: ([] : List UInt8)) (List.rec ⟨([] : List Int), PUnit.unit⟩ (fun head tail tail_ih ↦ ⟨List.map._f (fun b ↦ (↑b.toNat : Int)) (head :: tail) tail_ih, tail_ih⟩) ((97 : UInt8) :: (100 : UInt8) :: ([] : List UInt8)))).length : Int) + (1 : Int)).toNat (List.take (↑x.1.length : Int).toNat x.1))) = (zreadB x.1).1 ∧
 true = (zreadB x.1).2) ∧
 ((g.1 == (1 : Int)) = false →
 (g.1, (0 : Int), pu41V (List.drop ((↑((114 : Int) :: List.map._f (fun b ↦ (↑b.toNat : Int)) ((101 : UInt8) :: (97 : UInt8) :: (100 : UInt8) :: ([] : List UInt8)) (List.rec ⟨([] : List Int), PUnit.unit⟩ (fun head tail tail_ih ↦ ⟨List.map._f (fun b ↦ (↑b.toNat : Int)) (head :: tail) tail_ih, tail_ih⟩) ((97 : UInt8) :: (100 : UInt8) :: ([] : List UInt8)))).length : Int) + (1 : Int)).toNat (List.take (↑x.1.length : Int).toNat x.1)), (0 : Int)) = (zreadB x.1).1 ∧
 true = (zreadB x.1).2))) ∧
 ((!decide (dec (pu41V (List.drop ((↑((114 : Int) :: List.map._f (fun b ↦ (↑b.toNat : Int)) ((101 : UInt8) :: (97 : UInt8) :: (100 : UInt8) :: ([] : List UInt8)) (List.rec ⟨([] : List Int), PUnit.unit⟩ (fun head tail tail_ih ↦ ⟨List.map._f (fun b ↦ (↑b.toNat : Int)) (head :: tail) tail_ih, tail_ih⟩) ((97 : UInt8) :: (100 : UInt8) :: ([] : List UInt8)))).length : Int) + (1 : Int)).toNat (List.take (↑x.1.length : Int).toNat x.1))) = List.drop ((↑((114 : Int) :: List.map._f (fun b ↦ (↑b.toNat : Int)) ((101 : UInt8) :: (97 : UInt8) :: (100 : UInt8) :: ([] : List UInt8)) (List.rec ⟨([] : List Int), PUnit.unit⟩ (fun head tail tail_ih ↦ ⟨List.map._f (fun b ↦ (↑b.toNat : Int)) (head :: tail) tail_ih, tail_ih⟩) ((97 : UInt8) :: (100 : UInt8) :: ([] : List UInt8)))).length : Int) + (1 : Int)).toNat (List.take (↑x.1.length : Int).toNat x.1))) = !false →
 ((0 : Int), (0 : Int), (0 : Int), (0 : Int)) = (zreadB x.1).1 ∧
 false = (zreadB x.1).2)) ∧
 (decide ((1099511627776 : Int) < pu41V (List.drop ((↑((114 : Int) :: List.map._f (fun b ↦ (↑b.toNat : Int)) ((101 : UInt8) :: (97 : UInt8) :: (100 : UInt8) :: ([] : List UInt8)) (List.rec ⟨([] : List Int), PUnit.unit⟩ (fun head tail tail_ih ↦ ⟨List.map._f (fun b ↦ (↑b.toNat : Int)) (head :: tail) tail_ih, tail_ih⟩) ((97 : UInt8) :: (100 : UInt8) :: ([] : List UInt8)))).length : Int) + (1 : Int)).toNat (List.take (↑x.1.length : Int).toNat x.1))) = !false →
 ((0 : Int), (0 : Int), (0 : Int), (0 : Int)) = (zreadB x.1).1 ∧
 false = (zreadB x.1).2)) ∧
 (pu41E (List.drop ((↑((114 : Int) :: List.map._f (fun b ↦ (↑b.toNat : Int)) ((101 : UInt8) :: (97 : UInt8) :: (100 : UInt8) :: ([] : List UInt8)) (List.rec ⟨([] : List Int), PUnit.unit⟩ (fun head tail tail_ih ↦ ⟨List.map._f (fun b ↦ (↑b.toNat : Int)) (head :: tail) tail_ih, tail_ih⟩) ((97 : UInt8) :: (100 : UInt8) :: ([] : List UInt8)))).length : Int) + (1 : Int)).toNat (List.take (↑x.1.length : Int).toNat x.1)) = !false →
 ((0 : Int), (0 : Int), (0 : Int), (0 : Int)) = (zreadB x.1).1 ∧
 false = (zreadB x.1).2))) ∧
 ((g.1 == (3 : Int)) = false →
 ((g.1 == (4 : Int)) = true →
 ((-9223372036854775808 : Int) ≤ (↑((115 : Int) :: List.map._f (fun b ↦ (↑b.toNat : Int)) ((97 : UInt8) :: (118 : UInt8) :: (101 : UInt8) :: ([] : List UInt8)) (List.rec ⟨([] : List Int), PUnit.unit⟩ (fun head tail tail_ih ↦ ⟨List.map._f (fun b ↦ (↑b.toNat : Int)) (head :: tail) tail_ih, tail_ih⟩) ((118 : UInt8) :: (101 : UInt8) :: ([] : List UInt8)))).length : Int) + (1 : Int) ∧
 (↑((115 : Int) :: List.map._f (fun b ↦ (↑b.toNat : Int)) ((97 : UInt8) :: (118 : UInt8) :: (101 : UInt8) :: ([] : List UInt8)) (List.rec ⟨([] : List Int), PUnit.unit⟩ (fun head tail tail_ih ↦ ⟨List.map._f (fun b ↦ (↑b.toNat : Int)) (head :: tail) tail_ih, tail_ih⟩) ((118 : UInt8) :: (101 : UInt8) :: ([] : List UInt8)))).length : Int) + (1 : Int) ≤ (9223372036854775807 : Int)) ∧
 ((!decide ((↑x.1.length : Int) ≤ (↑((115 : Int) :: List.map._f (fun b ↦ (↑b.toNat : Int)) ((97 : UInt8) :: (118 : UInt8) :: (101 : UInt8) :: ([] : List UInt8)) (List.rec ⟨([] : List Int), PUnit.unit⟩ (fun head tail tail_ih ↦ ⟨List.map._f (fun b ↦ (↑b.toNat : Int)) (head :: tail) tail_ih, tail_ih⟩) ((118 : UInt8) :: (101 : UInt8) :: ([] : List UInt8)))).length : Int) + (1 : Int))) = true →
 (!decide ((↑x.1.length : Int) ≤ (↑((115 : Int) :: List.map._f (fun b ↦ (↑b.toNat : Int)) ((97 : UInt8) :: (118 : UInt8) :: (101 : UInt8) :: ([] : List UInt8)) (List.rec ⟨([] : List Int), PUnit.unit⟩ (fun head tail tail_ih ↦ ⟨List.map._f (fun b ↦ (↑b.toNat : Int)) (head :: tail) tail_ih, tail_ih⟩) ((118 : UInt8) :: (101 : UInt8) :: ([] : List UInt8)))).length : Int) + (1 : Int))) = true) ∧
 ((!decide ((↑x.1.length : Int) ≤ (↑((115 : Int) :: List.map._f (fun b ↦ (↑b.toNat : Int)) ((97 : UInt8) :: (118 : UInt8) :: (101 : UInt8) :: ([] : List UInt8)) (List.rec ⟨([] : List Int), PUnit.unit⟩ (fun head tail tail_ih ↦ ⟨List.map._f (fun b ↦ (↑b.toNat : Int)) (head :: tail) tail_ih, tail_ih⟩) ((118 : UInt8) :: (101 : UInt8) :: ([] : List UInt8)))).length : Int) + (1 : Int))) = true →
 (!decide ((↑x.1.length : Int) ≤ (↑((115 : Int) :: List.map._f (fun b ↦ (↑b.toNat : Int)) ((97 : UInt8) :: (118 : UInt8) :: (101 : UInt8) :: ([] : List UInt8)) (List.rec ⟨([] : List Int), PUnit.unit⟩ (fun head tail tail_ih ↦ ⟨List.map._f (fun b ↦ (↑b.toNat : Int)) (head :: tail) tail_ih, tail_ih⟩) ((118 : UInt8) :: (101 : UInt8) :: ([] : List UInt8)))).length : Int) + (1 : Int))) = true ∧
 (-9223372036854775808 : Int) ≤ (↑((115 : Int) :: List.map._f (fun b ↦ (↑b.toNat : Int)) ((97 : UInt8) :: (118 : UInt8) :: (101 : UInt8) :: ([] : List UInt8)) (List.rec ⟨([] : List Int), PUnit.unit⟩ (fun head tail tail_ih ↦ ⟨List.map._f (fun b ↦ (↑b.toNat : Int)) (head :: tail) tail_ih, tail_ih⟩) ((118 : UInt8) :: (101 : UInt8) :: ([] : List UInt8)))).length : Int) + (1 : Int) ∧
 (↑((115 : Int) :: List.map._f (fun b ↦ (↑b.toNat : Int)) ((97 : UInt8) :: (118 : UInt8) :: (101 : UInt8) :: ([] : List UInt8)) (List.rec ⟨([] : List Int), PUnit.unit⟩ (fun head tail tail_ih ↦ ⟨List.map._f (fun b ↦ (↑b.toNat : Int)) (head :: tail) tail_ih, tail_ih⟩) ((118 : UInt8) :: (101 : UInt8) :: ([] : List UInt8)))).length : Int) + (1 : Int) ≤ (9223372036854775807 : Int)) ∧
 ((!decide ((↑x.1.length : Int) ≤ (↑((115 : Int) :: List.map._f (fun b ↦ (↑b.toNat : Int)) ((97 : UInt8) :: (118 : UInt8) :: (101 : UInt8) :: ([] : List UInt8)) (List.rec ⟨([] : List Int), PUnit.unit⟩ (fun head tail tail_ih ↦ ⟨List.map._f (fun b ↦ (↑b.toNat : Int)) (head :: tail) tail_ih, tail_ih⟩) ((118 : UInt8) :: (101 : UInt8) :: ([] : List UInt8)))).length : Int) + (1 : Int))) = true →
 ((!decide ((↑x.1.length : Int) ≤ (↑((115 : Int) :: List.map._f (fun b ↦ (↑b.toNat : Int)) ((97 : UInt8) :: (118 : UInt8) :: (101 : UInt8) :: ([] : List UInt8)) (List.rec ⟨([] : List Int), PUnit.unit⟩ (fun head tail tail_ih ↦ ⟨List.map._f (fun b ↦ (↑b.toNat : Int)) (head :: tail) tail_ih, tail_ih⟩) ((118 : UInt8) :: (101 : UInt8) :: ([] : List UInt8)))).length : Int) + (1 : Int))) = true ∧
 (!decide ((↑x.1.length : Int) ≤ (↑((115 : Int) :: List.map._f (fun b ↦ (↑b.toNat : Int)) ((97 : UInt8) :: (118 : UInt8) :: (101 : UInt8) :: ([] : List UInt8)) (List.rec ⟨([] : List Int), PUnit.unit⟩ (fun head tail tail_ih ↦ ⟨List.map._f (fun b ↦ (↑b.toNat : Int)) (head :: tail) tail_ih, tail_ih⟩) ((118 : UInt8) :: (101 : UInt8) :: ([] : List UInt8)))).length : Int) + (1 : Int))) = true) ∧
 ((0 : Int) ≤ (0 : Int) ∧
 (0 : Int) ≤ (↑((115 : Int) :: List.map._f (fun b ↦ (↑b.toNat : Int)) ((97 : UInt8) :: (118 : UInt8) :: (101 : UInt8) :: ([] : List UInt8)) (List.rec ⟨([] : List Int), PUnit.unit⟩ (fun head tail tail_ih ↦ ⟨List.map._f (fun b ↦ (↑b.toNat : Int)) (head :: tail) tail_ih, tail_ih⟩) ((118 : UInt8) :: (101 : UInt8) :: ([] : List UInt8)))).length : Int) + (1 : Int)) ∧
 (↑((115 : Int) :: List.map._f (fun b ↦ (↑b.toNat : Int)) ((97 : UInt8) :: (118 : UInt8) :: (101 : UInt8) :: ([] : List UInt8)) (List.rec ⟨([] : List Int), PUnit.unit⟩ (fun head tail tail_ih ↦ ⟨List.map._f (fun b ↦ (↑b.toNat : Int)) (head :: tail) tail_ih, tail_ih⟩) ((118 : UInt8) :: (101 : UInt8) :: ([] : List UInt8)))).length : Int) + (1 : Int) ≤ (↑x.1.length : Int)) ∧
 ((!decide ((↑x.1.length : Int) ≤ (↑((115 : Int) :: List.map._f (fun b ↦ (↑b.toNat : Int)) ((97 : UInt8) :: (118 : UInt8) :: (101 : UInt8) :: ([] : List UInt8)) (List.rec ⟨([] : List Int), PUnit.unit⟩ (fun head tail tail_ih ↦ ⟨List.map._f (fun b ↦ (↑b.toNat : Int)) (head :: tail) tail_ih, tail_ih⟩) ((118 : UInt8) :: (101 : UInt8) :: ([] : List UInt8)))).length : Int) + (1 : Int))) = true →
 (!decide ((↑x.1.length : Int) ≤ (↑((115 : Int) :: List.map._f (fun b ↦ (↑b.toNat : Int)) ((97 : UInt8) :: (118 : UInt8) :: (101 : UInt8) :: ([] : List UInt8)) (List.rec ⟨([] : List Int), PUnit.unit⟩ (fun head tail tail_ih ↦ ⟨List.map._f (fun b ↦ (↑b.toNat : Int)) (head :: tail) tail_ih, tail_ih⟩) ((118 : UInt8) :: (101 : UInt8) :: ([] : List UInt8)))).length : Int) + (1 : Int))) = true ∧
 ((115 : Int) :: List.map._f (fun b ↦ (↑b.toNat : Int)) ((97 : UInt8) :: (118 : UInt8) :: (101 : UInt8) :: ([] : List UInt8)) (List.rec ⟨([] : List Int), PUnit.unit⟩ (fun head tail tail_ih ↦ ⟨List.map._f (fun b ↦ (↑b.toNat : Int)) (head :: tail) tail_ih, tail_ih⟩) ((118 : UInt8) :: (101 : UInt8) :: ([] : List UInt8)))).length + ((32 : Int) :: ([] : List Int)).length ≤ (9223372036854775807 : Nat)) ∧
 ((!decide ((↑x.1.length : Int) ≤ (↑((115 : Int) :: List.map._f (fun b ↦ (↑b.toNat : Int)) ((97 : UInt8) :: (118 : UInt8) :: (101 : UInt8) :: ([] : List UInt8)) (List.rec ⟨([] : List Int), PUnit.unit⟩ (fun head tail tail_ih ↦ ⟨List.map._f (fun b ↦ (↑b.toNat : Int)) (head :: tail) tail_ih, tail_ih⟩) ((118 : UInt8) :: (101 : UInt8) :: ([] : List UInt8)))).length : Int) + (1 : Int))) = true →
 (!decide ((↑x.1.length : Int) ≤ (↑((115 : Int) :: List.map._f (fun b ↦ (↑b.toNat : Int)) ((97 : UInt8) :: (118 : UInt8) :: (101 : UInt8) :: ([] : List UInt8)) (List.rec ⟨([] : List Int), PUnit.unit⟩ (fun head tail tail_ih ↦ ⟨List.map._f (fun b ↦ (↑b.toNat : Int)) (head :: tail) tail_ih, tail_ih⟩) ((118 : UInt8) :: (101 : UInt8) :: ([] : List UInt8)))).length : Int) + (1 : Int))) = true ∧
 (!decide ((↑x.1.length : Int) ≤ (↑((115 : Int) :: List.map._f (fun b ↦ (↑b.toNat : Int)) ((97 : UInt8) :: (118 : UInt8) :: (101 : UInt8) :: ([] : List UInt8)) (List.rec ⟨([] : List Int), PUnit.unit⟩ (fun head tail tail_ih ↦ ⟨List.map._f (fun b ↦ (↑b.toNat : Int)) (head :: tail) tail_ih, tail_ih⟩) ((118 : UInt8) :: (101 : UInt8) :: ([] : List UInt8)))).length : Int) + (1 : Int))) = true) ∧
 (decide ((↑x.1.length : Int) ≤ (↑((115 : Int) :: List.map._f (fun b ↦ (↑b.toNat : Int)) ((97 : UInt8) :: (118 : UInt8) :: (101 : UInt8) :: ([] : List UInt8)) (List.rec ⟨([] : List Int), PUnit.unit⟩ (fun head tail tail_ih ↦ ⟨List.map._f (fun b ↦ (↑b.toNat : Int)) (head :: tail) tail_ih, tail_ih⟩) ((118 : UInt8) :: (101 : UInt8) :: ([] : List UInt8)))).length : Int) + (1 : Int)) = false →
 (!decide ((↑x.1.length : Int) ≤ (↑((115 : Int) :: List.map._f (fun b ↦ (↑b.toNat : Int)) ((97 : UInt8) :: (118 : UInt8) :: (101 : UInt8) :: ([] : List UInt8)) (List.rec ⟨([] : List Int), PUnit.unit⟩ (fun head tail tail_ih ↦ ⟨List.map._f (fun b ↦ (↑b.toNat : Int)) (head :: tail) tail_ih, tail_ih⟩) ((118 : UInt8) :: (101 : UInt8) :: ([] : List UInt8)))).length : Int) + (1 : Int))) = true) ∧
 ((decide ((↑x.1.length : Int) ≤ (↑((115 : Int) :: List.map._f (fun b ↦ (↑b.toNat : Int)) ((97 : UInt8) :: (118 : UInt8) :: (101 : UInt8) :: ([] : List UInt8)) (List.rec ⟨([] : List Int), PUnit.unit⟩ (fun head tail tail_ih ↦ ⟨List.map._f (fun b ↦ (↑b.toNat : Int)) (head :: tail) tail_ih, tail_ih⟩) ((118 : UInt8) :: (101 : UInt8) :: ([] : List UInt8)))).length : Int) + (1 : Int)) || !decide (List.drop (Int.toNat (0 : Int)) (List.take ((↑((115 : Int) :: List.map._f (fun b ↦ (↑b.toNat : Int)) ((97 : UInt8) :: (118 : UInt8) :: (101 : UInt8) :: ([] : List UInt8)) (List.rec ⟨([] : List Int), PUnit.unit⟩ (fun head tail tail_ih ↦ ⟨List.map._f (fun b ↦ (↑b.toNat : Int)) (head :: tail) tail_ih, tail_ih⟩) ((118 : UInt8) :: (101 : UInt8) :: ([] : List UInt8)))).length : Int) + (1 : Int)).toNat x.1) = (115 : Int) :: List.map._f (fun b ↦ (↑b.toNat : Int)) ((97 : UInt8) :: (118 : UInt8) :: (101 : UInt8) :: ([] : List UInt8)) (List.rec ⟨([] : List Int), PUnit.unit⟩ (fun head tail tail_ih ↦ ⟨List.map._f (fun b ↦ (↑b.toNat : Int)) (head :: tail) tail_ih, tail_ih⟩) ((118 : UInt8) :: (101 : UInt8) :: ([] : List UInt8))) ++ (32 : Int) :: ([] : List Int))) = true →
 ((-9223372036854775808 : Int) ≤ g.1 + (1 : Int) ∧
 g.1 + (1 : Int) ≤ (9223372036854775807 : Int)) ∧
 (((1 : Int) ≤ g.1 + (1 : Int) ∧
 g.1 + (1 : Int) ≤ (7 : Int) ∧
 zreadB x.1 = zreadO x.1 ((7 : Int) - (g.1 + (1 : Int))).toNat) ∧
 ((7 : Int) - (g.1 + (1 : Int))).toNat < ((7 : Int) - g.1).toNat) ∧
 (x.1 = x.1 ∧
 (True ∧
 True) ∧
 g.1 + (1 : Int) = g.1 + (1 : Int) ∧
 True) ∧
 ((RR (0 : Int) ∧
 RR (0 : Int) ∧
 RR (0 : Int) ∧
 RR (0 : Int) ∧
 True) ∧
 True) ∧
 True) ∧
 ((decide ((↑x.1.length : Int) ≤ (↑((115 : Int) :: List.map._f (fun b ↦ (↑b.toNat : Int)) ((97 : UInt8) :: (118 : UInt8) :: (101 : UInt8) :: ([] : List UInt8)) (List.rec ⟨([] : List Int), PUnit.unit⟩ (fun head tail tail_ih ↦ ⟨List.map._f (fun b ↦ (↑b.toNat : Int)) (head :: tail) tail_ih, tail_ih⟩) ((118 : UInt8) :: (101 : UInt8) :: ([] : List UInt8)))).length : Int) + (1 : Int)) || !decide (List.drop (Int.toNat (0 : Int)) (List.take ((↑((115 : Int) :: List.map._f (fun b ↦ (↑b.toNat : Int)) ((97 : UInt8) :: (118 : UInt8) :: (101 : UInt8) :: ([] : List UInt8)) (List.rec ⟨([] : List Int), PUnit.unit⟩ (fun head tail tail_ih ↦ ⟨List.map._f (fun b ↦ (↑b.toNat : Int)) (head :: tail) tail_ih, tail_ih⟩) ((118 : UInt8) :: (101 : UInt8) :: ([] : List UInt8)))).length : Int) + (1 : Int)).toNat x.1) = (115 : Int) :: List.map._f (fun b ↦ (↑b.toNat : Int)) ((97 : UInt8) :: (118 : UInt8) :: (101 : UInt8) :: ([] : List UInt8)) (List.rec ⟨([] : List Int), PUnit.unit⟩ (fun head tail tail_ih ↦ ⟨List.map._f (fun b ↦ (↑b.toNat : Int)) (head :: tail) tail_ih, tail_ih⟩) ((118 : UInt8) :: (101 : UInt8) :: ([] : List UInt8))) ++ (32 : Int) :: ([] : List Int))) = false →
 ((-9223372036854775808 : Int) ≤ (↑((115 : Int) :: List.map._f (fun b ↦ (↑b.toNat : Int)) ((97 : UInt8) :: (118 : UInt8) :: (101 : UInt8) :: ([] : List UInt8)) (List.rec ⟨([] : List Int), PUnit.unit⟩ (fun head tail tail_ih ↦ ⟨List.map._f (fun b ↦ (↑b.toNat : Int)) (head :: tail) tail_ih, tail_ih⟩) ((118 : UInt8) :: (101 : UInt8) :: ([] : List UInt8)))).length : Int) + (1 : Int) ∧
 (↑((115 : Int) :: List.map._f (fun b ↦ (↑b.toNat : Int)) ((97 : UInt8) :: (118 : UInt8) :: (101 : UInt8) :: ([] : List UInt8)) (List.rec ⟨([] : List Int), PUnit.unit⟩ (fun head tail tail_ih ↦ ⟨List.map._f (fun b ↦ (↑b.toNat : Int)) (head :: tail) tail_ih, tail_ih⟩) ((118 : UInt8) :: (101 : UInt8) :: ([] : List UInt8)))).length : Int) + (1 : Int) ≤ (9223372036854775807 : Int)) ∧
 (((0 : Int) ≤ (↑((115 : Int) :: List.map._f (fun b ↦ (↑b.toNat : Int)) ((97 : UInt8) :: (118 : UInt8) :: (101 : UInt8) :: ([] : List UInt8)) (List.rec ⟨([] : List Int), PUnit.unit⟩ (fun head tail tail_ih ↦ ⟨List.map._f (fun b ↦ (↑b.toNat : Int)) (head :: tail) tail_ih, tail_ih⟩) ((118 : UInt8) :: (101 : UInt8) :: ([] : List UInt8)))).length : Int) + (1 : Int) ∧
 (↑((115 : Int) :: List.map._f (fun b ↦ (↑b.toNat : Int)) ((97 : UInt8) :: (118 : UInt8) :: (101 : UInt8) :: ([] : List UInt8)) (List.rec ⟨([] : List Int), PUnit.unit⟩ (fun head tail tail_ih ↦ ⟨List.map._f (fun b ↦ (↑b.toNat : Int)) (head :: tail) tail_ih, tail_ih⟩) ((118 : UInt8) :: (101 : UInt8) :: ([] : List UInt8)))).length : Int) + (1 : Int) ≤ (↑x.1.length : Int)) ∧
 (↑x.1.length : Int) ≤ (↑x.1.length : Int)) ∧
 Holds ((List.drop ((↑((115 : Int) :: List.map._f (fun b ↦ (↑b.toNat : Int)) ((97 : UInt8) :: (118 : UInt8) :: (101 : UInt8) :: ([] : List UInt8)) (List.rec ⟨([] : List Int), PUnit.unit⟩ (fun head tail tail_ih ↦ ⟨List.map._f (fun b ↦ (↑b.toNat : Int)) (head :: tail) tail_ih, tail_ih⟩) ((118 : UInt8) :: (101 : UInt8) :: ([] : List UInt8)))).length : Int) + (1 : Int)).toNat (List.take (↑x.1.length : Int).toNat x.1)).length ≤ (1048576 : Nat) ∧
 RR (10 : Int) ∧
 (41 : Int) = (41 : Int)) ∧
 (pu41E (List.drop ((↑((115 : Int) :: List.map._f (fun b ↦ (↑b.toNat : Int)) ((97 : UInt8) :: (118 : UInt8) :: (101 : UInt8) :: ([] : List UInt8)) (List.rec ⟨([] : List Int), PUnit.unit⟩ (fun head tail tail_ih ↦ ⟨List.map._f (fun b ↦ (↑b.toNat : Int)) (head :: tail) tail_ih, tail_ih⟩) ((118 : UInt8) :: (101 : UInt8) :: ([] : List UInt8)))).length : Int) + (1 : Int)).toNat (List.take (↑x.1.length : Int).toNat x.1)) = false →
 (decide ((1099511627776 : Int) < pu41V (List.drop ((↑((115 : Int) :: List.map._f (fun b ↦ (↑b.toNat : Int)) ((97 : UInt8) :: (118 : UInt8) :: (101 : UInt8) :: ([] : List UInt8)) (List.rec ⟨([] : List Int), PUnit.unit⟩ (fun head tail tail_ih ↦ ⟨List.map._f (fun b ↦ (↑b.toNat : Int)) (head :: tail) tail_ih, tail_ih⟩) ((118 : UInt8) :: (101 : UInt8) :: ([] : List UInt8)))).length : Int) + (1 : Int)).toNat (List.take (↑x.1.length : Int).toNat x.1))) = false →
 Holds (pu41V (List.drop ((↑((115 : Int) :: List.map._f (fun b ↦ (↑b.toNat : Int)) ((97 : UInt8) :: (118 : UInt8) :: (101 : UInt8) :: ([] : List UInt8)) (List.rec ⟨([] : List Int), PUnit.unit⟩ (fun head tail tail_ih ↦ ⟨List.map._f (fun b ↦ (↑b.toNat : Int)) (head :: tail) tail_ih, tail_ih⟩) ((118 : UInt8) :: (101 : UInt8) :: ([] : List UInt8)))).length : Int) + (1 : Int)).toNat (List.take (↑x.1.length : Int).toNat x.1)) ≤ (1099511627776 : Int) ∧
 (10 : Int) = (10 : Int)) ∧
 ((-9223372036854775808 : Int) ≤ (↑((115 : Int) :: List.map._f (fun b ↦ (↑b.toNat : Int)) ((97 : UInt8) :: (118 : UInt8) :: (101 : UInt8) :: ([] : List UInt8)) (List.rec ⟨([] : List Int), PUnit.unit⟩ (fun head tail tail_ih ↦ ⟨List.map._f (fun b ↦ (↑b.toNat : Int)) (head :: tail) tail_ih, tail_ih⟩) ((118 : UInt8) :: (101 : UInt8) :: ([] : List UInt8)))).length : Int) + (1 : Int) ∧
 (↑((115 : Int) :: List.map._f (fun b ↦ (↑b.toNat : Int)) ((97 : UInt8) :: (118 : UInt8) :: (101 : UInt8) :: ([] : List UInt8)) (List.rec ⟨([] : List Int), PUnit.unit⟩ (fun head tail tail_ih ↦ ⟨List.map._f (fun b ↦ (↑b.toNat : Int)) (head :: tail) tail_ih, tail_ih⟩) ((118 : UInt8) :: (101 : UInt8) :: ([] : List UInt8)))).length : Int) + (1 : Int) ≤ (9223372036854775807 : Int)) ∧
 (((0 : Int) ≤ (↑((115 : Int) :: List.map._f (fun b ↦ (↑b.toNat : Int)) ((97 : UInt8) :: (118 : UInt8) :: (101 : UInt8) :: ([] : List UInt8)) (List.rec ⟨([] : List Int), PUnit.unit⟩ (fun head tail tail_ih ↦ ⟨List.map._f (fun b ↦ (↑b.toNat : Int)) (head :: tail) tail_ih, tail_ih⟩) ((118 : UInt8) :: (101 : UInt8) :: ([] : List UInt8)))).length : Int) + (1 : Int) ∧
 (↑((115 : Int) :: List.map._f (fun b ↦ (↑b.toNat : Int)) ((97 : UInt8) :: (118 : UInt8) :: (101 : UInt8) :: ([] : List UInt8)) (List.rec ⟨([] : List Int), PUnit.unit⟩ (fun head tail tail_ih ↦ ⟨List.map._f (fun b ↦ (↑b.toNat : Int)) (head :: tail) tail_ih, tail_ih⟩) ((118 : UInt8) :: (101 : UInt8) :: ([] : List UInt8)))).length : Int) + (1 : Int) ≤ (↑x.1.length : Int)) ∧
 (↑x.1.length : Int) ≤ (↑x.1.length : Int)) ∧
 ((!decide (dec (pu41V (List.drop ((↑((115 : Int) :: List.map._f (fun b ↦ (↑b.toNat : Int)) ((97 : UInt8) :: (118 : UInt8) :: (101 : UInt8) :: ([] : List UInt8)) (List.rec ⟨([] : List Int), PUnit.unit⟩ (fun head tail tail_ih ↦ ⟨List.map._f (fun b ↦ (↑b.toNat : Int)) (head :: tail) tail_ih, tail_ih⟩) ((118 : UInt8) :: (101 : UInt8) :: ([] : List UInt8)))).length : Int) + (1 : Int)).toNat (List.take (↑x.1.length : Int).toNat x.1))) = List.drop ((↑((115 : Int) :: List.map._f (fun b ↦ (↑b.toNat : Int)) ((97 : UInt8) :: (118 : UInt8) :: (101 : UInt8) :: ([] : List UInt8)) (List.rec ⟨([] : List Int), PUnit.unit⟩ (fun head tail tail_ih ↦ ⟨List.map._f (fun b ↦ (↑b.toNat : Int)) (head :: tail) tail_ih, tail_ih⟩) ((118 : UInt8) :: (101 : UInt8) :: ([] : List UInt8)))).length : Int) + (1 : Int)).toNat (List.take (↑x.1.length : Int).toNat x.1))) = false →
 ((g.1 == (1 : Int)) = true →
 (decide ((255 : Int) < pu41V (List.drop ((↑((115 : Int) :: List.map._f (fun b ↦ (↑b.toNat : Int)) ((97 : UInt8) :: (118 : UInt8) :: (101 : UInt8) :: ([] : List UInt8)) (List.rec ⟨([] : List Int), PUnit.unit⟩ (fun head tail tail_ih ↦ ⟨List.map._f (fun b ↦ (↑b.toNat : Int)) (head :: tail) tail_ih, tail_ih⟩) ((118 : UInt8) :: (101 : UInt8) :: ([] : List UInt8)))).length : Int) + (1 : Int)).toNat (List.take (↑x.1.length : Int).toNat x.1))) = true →
 ((0 : Int), (0 : Int), (0 : Int), (0 : Int)) = (zreadB x.1).1 ∧
 false = (zreadB x.1).2) ∧
 (decide ((255 : Int) < pu41V (List.drop ((↑((115 : Int) :: List.map._f (fun b ↦ (↑b.toNat : Int)) ((97 : UInt8) :: (118 : UInt8) :: (101 : UInt8) :: ([] : List UInt8)) (List.rec ⟨([] : List Int), PUnit.unit⟩ (fun head tail tail_ih ↦ ⟨List.map._f (fun b ↦ (↑b.toNat : Int)) (head :: tail) tail_ih, tail_ih⟩) ((118 : UInt8) :: (101 : UInt8) :: ([] : List UInt8)))).length : Int) + (1 : Int)).toNat (List.take (↑x.1.length : Int).toNat x.1))) = false →
 ((-9223372036854775808 : Int) ≤ pu41V (List.drop ((↑((115 : Int) :: List.map._f (fun b ↦ (↑b.toNat : Int)) ((97 : UInt8) :: (118 : UInt8) :: (101 : UInt8) :: ([] : List UInt8)) (List.rec ⟨([] : List Int), PUnit.unit⟩ (fun head tail tail_ih ↦ ⟨List.map._f (fun b ↦ (↑b.toNat : Int)) (head :: tail) tail_ih, tail_ih⟩) ((118 : UInt8) :: (101 : UInt8) :: ([] : List UInt8)))).length : Int) + (1 : Int)).toNat (List.take (↑x.1.length : Int).toNat x.1)) ∧
 pu41V (List.drop ((↑((115 : Int) :: List.map._f (fun b ↦ (↑b.toNat : Int)) ((97 : UInt8) :: (118 : UInt8) :: (101 : UInt8) :: ([] : List UInt8)) (List.rec ⟨([] : List Int), PUnit.unit⟩ (fun head tail tail_ih ↦ ⟨List.map._f (fun b ↦ (↑b.toNat : Int)) (head :: tail) tail_ih, tail_ih⟩) ((118 : UInt8) :: (101 : UInt8) :: ([] : List UInt8)))).length : Int) + (1 : Int)).toNat (List.take (↑x.1.length : Int).toNat x.1)) ≤ (9223372036854775807 : Int)) ∧
 ((g.1 == (1 : Int)) = true →
 ((0 : Int) ≤ pu41V (List.drop ((↑((115 : Int) :: List.map._f (fun b ↦ (↑b.toNat : Int)) ((97 : UInt8) :: (118 : UInt8) :: (101 : UInt8) :: ([] : List UInt8)) (List.rec ⟨([] : List Int), PUnit.unit⟩ (fun head tail tail_ih ↦ ⟨List.map._f (fun b ↦ (↑b.toNat : Int)) (head :: tail) tail_ih, tail_ih⟩) ((118 : UInt8) :: (101 : UInt8) :: ([] : List UInt8)))).length : Int) + (1 : Int)).toNat (List.take (↑x.1.length : Int).toNat x.1)) ∧
 pu41V (List.drop ((↑((115 : Int) :: List.map._f (fun b ↦ (↑b.toNat : Int)) ((97 : UInt8) :: (118 : UInt8) :: (101 : UInt8) :: ([] : List UInt8)) (List.rec ⟨([] : List Int), PUnit.unit⟩ (fun head tail tail_ih ↦ ⟨List.map._f (fun b ↦ (↑b.toNat : Int)) (head :: tail) tail_ih, tail_ih⟩) ((118 : UInt8) :: (101 : UInt8) :: ([] : List UInt8)))).length : Int) + (1 : Int)).toNat (List.take (↑x.1.length : Int).toNat x.1)) ≤ (255 : Int)) ∧
 (g.1, pu41V (List.drop ((↑((115 : Int) :: List.map._f (fun b ↦ (↑b.toNat : Int)) ((97 : UInt8) :: (118 : UInt8) :: (101 : UInt8) :: ([] : List UInt8)) (List.rec ⟨([] : List Int), PUnit.unit⟩ (fun head tail tail_ih ↦ ⟨List.map._f (fun b ↦ (↑b.toNat : Int)) (head :: tail) tail_ih, tail_ih⟩) ((118 : UInt8) :: (101 : UInt8) :: ([] : List UInt8)))).length : Int) + (1 : Int)).toNat (List.take (↑x.1.length : Int).toNat x.1)), (0 : Int), pu41V (List.drop ((↑((115 : Int) :: List.map._f (fun b ↦ (↑b.toNat : Int)) ((97 : UInt8) :: (118 : UInt8) :: (101 : UInt8) :: ([] : List UInt8)) (List.rec ⟨([] : List Int), PUnit.unit⟩ (fun head tail tail_ih ↦ ⟨List.map._f (fun b ↦ (↑b.toNat : Int)) (head :: tail) tail_ih, tail_ih⟩) ((118 : UInt8) :: (101 : UInt8) :: ([] : List UInt8)))).length : Int) + (1 : Int)).toNat (List.take (↑x.1.length : Int).toNat x.1))) = (zreadB x.1).1 ∧
 true = (zreadB x.1).2) ∧
 ((g.1 == (1 : Int)) = false →
 (g.1, pu41V (List.drop ((↑((115 : Int) :: List.map._f (fun b ↦ (↑b.toNat : Int)) ((97 : UInt8) :: (118 : UInt8) :: (101 : UInt8) :: ([] : List UInt8)) (List.rec ⟨([] : List Int), PUnit.unit⟩ (fun head tail tail_ih ↦ ⟨List.map._f (fun b ↦ (↑b.toNat : Int)) (head :: tail) tail_ih, tail_ih⟩) ((118 : UInt8) :: (101 : UInt8) :: ([] : List UInt8)))).length : Int) + (1 : Int)).toNat (List.take (↑x.1.length : Int).toNat x.1)), (0 : Int), (0 : Int)) = (zreadB x.1).1 ∧
 true = (zreadB x.1).2))) ∧
 ((g.1 == (1 : Int)) = !true →
 ((-9223372036854775808 : Int) ≤ pu41V (List.drop ((↑((115 : Int) :: List.map._f (fun b ↦ (↑b.toNat : Int)) ((97 : UInt8) :: (118 : UInt8) :: (101 : UInt8) :: ([] : List UInt8)) (List.rec ⟨([] : List Int), PUnit.unit⟩ (fun head tail tail_ih ↦ ⟨List.map._f (fun b ↦ (↑b.toNat : Int)) (head :: tail) tail_ih, tail_ih⟩) ((118 : UInt8) :: (101 : UInt8) :: ([] : List UInt8)))).length : Int) + (1 : Int)).toNat (List.take (↑x.1.length : Int).toNat x.1)) ∧
 pu41V (List.drop ((↑((115 : Int) :: List.map._f (fun b ↦ (↑b.toNat : Int)) ((97 : UInt8) :: (118 : UInt8) :: (101 : UInt8) :: ([] : List UInt8)) (List.rec ⟨([] : List Int), PUnit.unit⟩ (fun head tail tail_ih ↦ ⟨List.map._f (fun b ↦ (↑b.toNat : Int)) (head :: tail) tail_ih, tail_ih⟩) ((118 : UInt8) :: (101 : UInt8) :: ([] : List UInt8)))).length : Int) + (1 : Int)).toNat (List.take (↑x.1.length : Int).toNat x.1)) ≤ (9223372036854775807 : Int)) ∧
 ((g.1 == (1 : Int)) = true →
 ((0 : Int) ≤ pu41V (List.drop ((↑((115 : Int) :: List.map._f (fun b ↦ (↑b.toNat : Int)) ((97 : UInt8) :: (118 : UInt8) :: (101 : UInt8) :: ([] : List UInt8)) (List.rec ⟨([] : List Int), PUnit.unit⟩ (fun head tail tail_ih ↦ ⟨List.map._f (fun b ↦ (↑b.toNat : Int)) (head :: tail) tail_ih, tail_ih⟩) ((118 : UInt8) :: (101 : UInt8) :: ([] : List UInt8)))).length : Int) + (1 : Int)).toNat (List.take (↑x.1.length : Int).toNat x.1)) ∧
 pu41V (List.drop ((↑((115 : Int) :: List.map._f (fun b ↦ (↑b.toNat : Int)) ((97 : UInt8) :: (118 : UInt8) :: (101 : UInt8) :: ([] : List UInt8)) (List.rec ⟨([] : List Int), PUnit.unit⟩ (fun head tail tail_ih ↦ ⟨List.map._f (fun b ↦ (↑b.toNat : Int)) (head :: tail) tail_ih, tail_ih⟩) ((118 : UInt8) :: (101 : UInt8) :: ([] : List UInt8)))).length : Int) + (1 : Int)).toNat (List.take (↑x.1.length : Int).toNat x.1)) ≤ (255 : Int)) ∧
 (g.1, pu41V (List.drop ((↑((115 : Int) :: List.map._f (fun b ↦ (↑b.toNat : Int)) ((97 : UInt8) :: (118 : UInt8) :: (101 : UInt8) :: ([] : List UInt8)) (List.rec ⟨([] : List Int), PUnit.unit⟩ (fun head tail tail_ih ↦ ⟨List.map._f (fun b ↦ (↑b.toNat : Int)) (head :: tail) tail_ih, tail_ih⟩) ((118 : UInt8) :: (101 : UInt8) :: ([] : List UInt8)))).length : Int) + (1 : Int)).toNat (List.take (↑x.1.length : Int).toNat x.1)), (0 : Int), pu41V (List.drop ((↑((115 : Int) :: List.map._f (fun b ↦ (↑b.toNat : Int)) ((97 : UInt8) :: (118 : UInt8) :: (101 : UInt8) :: ([] : List UInt8)) (List.rec ⟨([] : List Int), PUnit.unit⟩ (fun head tail tail_ih ↦ ⟨List.map._f (fun b ↦ (↑b.toNat : Int)) (head :: tail) tail_ih, tail_ih⟩) ((118 : UInt8) :: (101 : UInt8) :: ([] : List UInt8)))).length : Int) + (1 : Int)).toNat (List.take (↑x.1.length : Int).toNat x.1))) = (zreadB x.1).1 ∧
 true = (zreadB x.1).2) ∧
 ((g.1 == (1 : Int)) = false →
 (g.1, pu41V (List.drop ((↑((115 : Int) :: List.map._f (fun b ↦ (↑b.toNat : Int)) ((97 : UInt8) :: (118 : UInt8) :: (101 : UInt8) :: ([] : List UInt8)) (List.rec ⟨([] : List Int), PUnit.unit⟩ (fun head tail tail_ih ↦ ⟨List.map._f (fun b ↦ (↑b.toNat : Int)) (head :: tail) tail_ih, tail_ih⟩) ((118 : UInt8) :: (101 : UInt8) :: ([] : List UInt8)))).length : Int) + (1 : Int)).toNat (List.take (↑x.1.length : Int).toNat x.1)), (0 : Int), (0 : Int)) = (zreadB x.1).1 ∧
 true = (zreadB x.1).2))) ∧
 ((!decide (dec (pu41V (List.drop ((↑((115 : Int) :: List.map._f (fun b ↦ (↑b.toNat : Int)) ((97 : UInt8) :: (118 : UInt8) :: (101 : UInt8) :: ([] : List UInt8)) (List.rec ⟨([] : List Int), PUnit.unit⟩ (fun head tail tail_ih ↦ ⟨List.map._f (fun b ↦ (↑b.toNat : Int)) (head :: tail) tail_ih, tail_ih⟩) ((118 : UInt8) :: (101 : UInt8) :: ([] : List UInt8)))).length : Int) + (1 : Int)).toNat (List.take (↑x.1.length : Int).toNat x.1))) = List.drop ((↑((115 : Int) :: List.map._f (fun b ↦ (↑b.toNat : Int)) ((97 : UInt8) :: (118 : UInt8) :: (101 : UInt8) :: ([] : List UInt8)) (List.rec ⟨([] : List Int), PUnit.unit⟩ (fun head tail tail_ih ↦ ⟨List.map._f (fun b ↦ (↑b.toNat : Int)) (head :: tail) tail_ih, tail_ih⟩) ((118 : UInt8) :: (101 : UInt8) :: ([] : List UInt8)))).length : Int) + (1 : Int)).toNat (List.take (↑x.1.length : Int).toNat x.1))) = !false →
 ((0 : Int), (0 : Int), (0 : Int), (0 : Int)) = (zreadB x.1).1 ∧
 false = (zreadB x.1).2)) ∧
 (decide ((1099511627776 : Int) < pu41V (List.drop ((↑((115 : Int) :: List.map._f (fun b ↦ (↑b.toNat : Int)) ((97 : UInt8) :: (118 : UInt8) :: (101 : UInt8) :: ([] : List UInt8)) (List.rec ⟨([] : List Int), PUnit.unit⟩ (fun head tail tail_ih ↦ ⟨List.map._f (fun b ↦ (↑b.toNat : Int)) (head :: tail) tail_ih, tail_ih⟩) ((118 : UInt8) :: (101 : UInt8) :: ([] : List UInt8)))).length : Int) + (1 : Int)).toNat (List.take (↑x.1.length : Int).toNat x.1))) = !false →
 ((0 : Int), (0 : Int), (0 : Int), (0 : Int)) = (zreadB x.1).1 ∧
 false = (zreadB x.1).2)) ∧
 (pu41E (List.drop ((↑((115 : Int) :: List.map._f (fun b ↦ (↑b.toNat : Int)) ((97 : UInt8) :: (118 : UInt8) :: (101 : UInt8) :: ([] : List UInt8)) (List.rec ⟨([] : List Int), PUnit.unit⟩ (fun head tail tail_ih ↦ ⟨List.map._f (fun b ↦ (↑b.toNat : Int)) (head :: tail) tail_ih, tail_ih⟩) ((118 : UInt8) :: (101 : UInt8) :: ([] : List UInt8)))).length : Int) + (1 : Int)).toNat (List.take (↑x.1.length : Int).toNat x.1)) = !false →
 ((0 : Int), (0 : Int), (0 : Int), (0 : Int)) = (zreadB x.1).1 ∧
 false = (zreadB x.1).2))) ∧
 ((g.1 == (4 : Int)) = false →
 ((g.1 == (5 : Int)) = true →
 ((-9223372036854775808 : Int) ≤ (↑((114 : Int) :: List.map._f (fun b ↦ (↑b.toNat : Int)) ((101 : UInt8) :: (115 : UInt8) :: (116 : UInt8) :: (111 : UInt8) :: (114 : UInt8) :: (101 : UInt8) :: ([] : List UInt8)) (List.rec ⟨([] : List Int), PUnit.unit⟩ (fun head tail tail_ih ↦ ⟨List.map._f (fun b ↦ (↑b.toNat : Int)) (head :: tail) tail_ih, tail_ih⟩) ((115 : UInt8) :: (116 : UInt8) :: (111 : UInt8) :: (114 : UInt8) :: (101 : UInt8) :: ([] : List UInt8)))).length : Int) + (1 : Int) ∧
 (↑((114 : Int) :: List.map._f (fun b ↦ (↑b.toNat : Int)) ((101 : UInt8) :: (115 : UInt8) :: (116 : UInt8) :: (111 : UInt8) :: (114 : UInt8) :: (101 : UInt8) :: ([] : List UInt8)) (List.rec ⟨([] : List Int), PUnit.unit⟩ (fun head tail tail_ih ↦ ⟨List.map._f (fun b ↦ (↑b.toNat : Int)) (head :: tail) tail_ih, tail_ih⟩) ((115 : UInt8) :: (116 : UInt8) :: (111 : UInt8) :: (114 : UInt8) :: (101 : UInt8) :: ([] : List UInt8)))).length : Int) + (1 : Int) ≤ (9223372036854775807 : Int)) ∧
 ((!decide ((↑x.1.length : Int) ≤ (↑((114 : Int) :: List.map._f (fun b ↦ (↑b.toNat : Int)) ((101 : UInt8) :: (115 : UInt8) :: (116 : UInt8) :: (111 : UInt8) :: (114 : UInt8) :: (101 : UInt8) :: ([] : List UInt8)) (List.rec ⟨([] : List Int), PUnit.unit⟩ (fun head tail tail_ih ↦ ⟨List.map._f (fun b ↦ (↑b.toNat : Int)) (head :: tail) tail_ih, tail_ih⟩) ((115 : UInt8) :: (116 : UInt8) :: (111 : UInt8) :: (114 : UInt8) :: (101 : UInt8) :: ([] : List UInt8)))).length : Int) + (1 : Int))) = true →
 (!decide ((↑x.1.length : Int) ≤ (↑((114 : Int) :: List.map._f (fun b ↦ (↑b.toNat : Int)) ((101 : UInt8) :: (115 : UInt8) :: (116 : UInt8) :: (111 : UInt8) :: (114 : UInt8) :: (101 : UInt8) :: ([] : List UInt8)) (List.rec ⟨([] : List Int), PUnit.unit⟩ (fun head tail tail_ih ↦ ⟨List.map._f (fun b ↦ (↑b.toNat : Int)) (head :: tail) tail_ih, tail_ih⟩) ((115 : UInt8) :: (116 : UInt8) :: (111 : UInt8) :: (114 : UInt8) :: (101 : UInt8) :: ([] : List UInt8)))).length : Int) + (1 : Int))) = true) ∧
 ((!decide ((↑x.1.length : Int) ≤ (↑((114 : Int) :: List.map._f (fun b ↦ (↑b.toNat : Int)) ((101 : UInt8) :: (115 : UInt8) :: (116 : UInt8) :: (111 : UInt8) :: (114 : UInt8) :: (101 : UInt8) :: ([] : List UInt8)) (List.rec ⟨([] : List Int), PUnit.unit⟩ (fun head tail tail_ih ↦ ⟨List.map._f (fun b ↦ (↑b.toNat : Int)) (head :: tail) tail_ih, tail_ih⟩) ((115 : UInt8) :: (116 : UInt8) :: (111 : UInt8) :: (114 : UInt8) :: (101 : UInt8) :: ([] : List UInt8)))).length : Int) + (1 : Int))) = true →
 (!decide ((↑x.1.length : Int) ≤ (↑((114 : Int) :: List.map._f (fun b ↦ (↑b.toNat : Int)) ((101 : UInt8) :: (115 : UInt8) :: (116 : UInt8) :: (111 : UInt8) :: (114 : UInt8) :: (101 : UInt8) :: ([] : List UInt8)) (List.rec ⟨([] : List Int), PUnit.unit⟩ (fun head tail tail_ih ↦ ⟨List.map._f (fun b ↦ (↑b.toNat : Int)) (head :: tail) tail_ih, tail_ih⟩) ((115 : UInt8) :: (116 : UInt8) :: (111 : UInt8) :: (114 : UInt8) :: (101 : UInt8) :: ([] : List UInt8)))).length : Int) + (1 : Int))) = true ∧
 (-9223372036854775808 : Int) ≤ (↑((114 : Int) :: List.map._f (fun b ↦ (↑b.toNat : Int)) ((101 : UInt8) :: (115 : UInt8) :: (116 : UInt8) :: (111 : UInt8) :: (114 : UInt8) :: (101 : UInt8) :: ([] : List UInt8)) (List.rec ⟨([] : List Int), PUnit.unit⟩ (fun head tail tail_ih ↦ ⟨List.map._f (fun b ↦ (↑b.toNat : Int)) (head :: tail) tail_ih, tail_ih⟩) ((115 : UInt8) :: (116 : UInt8) :: (111 : UInt8) :: (114 : UInt8) :: (101 : UInt8) :: ([] : List UInt8)))).length : Int) + (1 : Int) ∧
 (↑((114 : Int) :: List.map._f (fun b ↦ (↑b.toNat : Int)) ((101 : UInt8) :: (115 : UInt8) :: (116 : UInt8) :: (111 : UInt8) :: (114 : UInt8) :: (101 : UInt8) :: ([] : List UInt8)) (List.rec ⟨([] : List Int), PUnit.unit⟩ (fun head tail tail_ih ↦ ⟨List.map._f (fun b ↦ (↑b.toNat : Int)) (head :: tail) tail_ih, tail_ih⟩) ((115 : UInt8) :: (116 : UInt8) :: (111 : UInt8) :: (114 : UInt8) :: (101 : UInt8) :: ([] : List UInt8)))).length : Int) + (1 : Int) ≤ (9223372036854775807 : Int)) ∧
 ((!decide ((↑x.1.length : Int) ≤ (↑((114 : Int) :: List.map._f (fun b ↦ (↑b.toNat : Int)) ((101 : UInt8) :: (115 : UInt8) :: (116 : UInt8) :: (111 : UInt8) :: (114 : UInt8) :: (101 : UInt8) :: ([] : List UInt8)) (List.rec ⟨([] : List Int), PUnit.unit⟩ (fun head tail tail_ih ↦ ⟨List.map._f (fun b ↦ (↑b.toNat : Int)) (head :: tail) tail_ih, tail_ih⟩) ((115 : UInt8) :: (116 : UInt8) :: (111 : UInt8) :: (114 : UInt8) :: (101 : UInt8) :: ([] : List UInt8)))).length : Int) + (1 : Int))) = true →
 ((!decide ((↑x.1.length : Int) ≤ (↑((114 : Int) :: List.map._f (fun b ↦ (↑b.toNat : Int)) ((101 : UInt8) :: (115 : UInt8) :: (116 : UInt8) :: (111 : UInt8) :: (114 : UInt8) :: (101 : UInt8) :: ([] : List UInt8)) (List.rec ⟨([] : List Int), PUnit.unit⟩ (fun head tail tail_ih ↦ ⟨List.map._f (fun b ↦ (↑b.toNat : Int)) (head :: tail) tail_ih, tail_ih⟩) ((115 : UInt8) :: (116 : UInt8) :: (111 : UInt8) :: (114 : UInt8) :: (101 : UInt8) :: ([] : List UInt8)))).length : Int) + (1 : Int))) = true ∧
 (!decide ((↑x.1.length : Int) ≤ (↑((114 : Int) :: List.map._f (fun b ↦ (↑b.toNat : Int)) ((101 : UInt8) :: (115 : UInt8) :: (116 : UInt8) :: (111 : UInt8) :: (114 : UInt8) :: (101 : UInt8) :: ([] : List UInt8)) (List.rec ⟨([] : List Int), PUnit.unit⟩ (fun head tail tail_ih ↦ ⟨List.map._f (fun b ↦ (↑b.toNat : Int)) (head :: tail) tail_ih, tail_ih⟩) ((115 : UInt8) :: (116 : UInt8) :: (111 : UInt8) :: (114 : UInt8) :: (101 : UInt8) :: ([] : List UInt8)))).length : Int) + (1 : Int))) = true) ∧
 ((0 : Int) ≤ (0 : Int) ∧
 (0 : Int) ≤ (↑((114 : Int) :: List.map._f (fun b ↦ (↑b.toNat : Int)) ((101 : UInt8) :: (115 : UInt8) :: (116 : UInt8) :: (111 : UInt8) :: (114 : UInt8) :: (101 : UInt8) :: ([] : List UInt8)) (List.rec ⟨([] : List Int), PUnit.unit⟩ (fun head tail tail_ih ↦ ⟨List.map._f (fun b ↦ (↑b.toNat : Int)) (head :: tail) tail_ih, tail_ih⟩) ((115 : UInt8) :: (116 : UInt8) :: (111 : UInt8) :: (114 : UInt8) :: (101 : UInt8) :: ([] : List UInt8)))).length : Int) + (1 : Int)) ∧
 (↑((114 : Int) :: List.map._f (fun b ↦ (↑b.toNat : Int)) ((101 : UInt8) :: (115 : UInt8) :: (116 : UInt8) :: (111 : UInt8) :: (114 : UInt8) :: (101 : UInt8) :: ([] : List UInt8)) (List.rec ⟨([] : List Int), PUnit.unit⟩ (fun head tail tail_ih ↦ ⟨List.map._f (fun b ↦ (↑b.toNat : Int)) (head :: tail) tail_ih, tail_ih⟩) ((115 : UInt8) :: (116 : UInt8) :: (111 : UInt8) :: (114 : UInt8) :: (101 : UInt8) :: ([] : List UInt8)))).length : Int) + (1 : Int) ≤ (↑x.1.length : Int)) ∧
 ((!decide ((↑x.1.length : Int) ≤ (↑((114 : Int) :: List.map._f (fun b ↦ (↑b.toNat : Int)) ((101 : UInt8) :: (115 : UInt8) :: (116 : UInt8) :: (111 : UInt8) :: (114 : UInt8) :: (101 : UInt8) :: ([] : List UInt8)) (List.rec ⟨([] : List Int), PUnit.unit⟩ (fun head tail tail_ih ↦ ⟨List.map._f (fun b ↦ (↑b.toNat : Int)) (head :: tail) tail_ih, tail_ih⟩) ((115 : UInt8) :: (116 : UInt8) :: (111 : UInt8) :: (114 : UInt8) :: (101 : UInt8) :: ([] : List UInt8)))).length : Int) + (1 : Int))) = true →
 (!decide ((↑x.1.length : Int) ≤ (↑((114 : Int) :: List.map._f (fun b ↦ (↑b.toNat : Int)) ((101 : UInt8) :: (115 : UInt8) :: (116 : UInt8) :: (111 : UInt8) :: (114 : UInt8) :: (101 : UInt8) :: ([] : List UInt8)) (List.rec ⟨([] : List Int), PUnit.unit⟩ (fun head tail tail_ih ↦ ⟨List.map._f (fun b ↦ (↑b.toNat : Int)) (head :: tail) tail_ih, tail_ih⟩) ((115 : UInt8) :: (116 : UInt8) :: (111 : UInt8) :: (114 : UInt8) :: (101 : UInt8) :: ([] : List UInt8)))).length : Int) + (1 : Int))) = true ∧
 ((114 : Int) :: List.map._f (fun b ↦ (↑b.toNat : Int)) ((101 : UInt8) :: (115 : UInt8) :: (116 : UInt8) :: (111 : UInt8) :: (114 : UInt8) :: (101 : UInt8) :: ([] : List UInt8)) (List.rec ⟨([] : List Int), PUnit.unit⟩ (fun head tail tail_ih ↦ ⟨List.map._f (fun b ↦ (↑b.toNat : Int)) (head :: tail) tail_ih, tail_ih⟩) ((115 : UInt8) :: (116 : UInt8) :: (111 : UInt8) :: (114 : UInt8) :: (101 : UInt8) :: ([] : List UInt8)))).length + ((32 : Int) :: ([] : List Int)).length ≤ (9223372036854775807 : Nat)) ∧
 ((!decide ((↑x.1.length : Int) ≤ (↑((114 : Int) :: List.map._f (fun b ↦ (↑b.toNat : Int)) ((101 : UInt8) :: (115 : UInt8) :: (116 : UInt8) :: (111 : UInt8) :: (114 : UInt8) :: (101 : UInt8) :: ([] : List UInt8)) (List.rec ⟨([] : List Int), PUnit.unit⟩ (fun head tail tail_ih ↦ ⟨List.map._f (fun b ↦ (↑b.toNat : Int)) (head :: tail) tail_ih, tail_ih⟩) ((115 : UInt8) :: (116 : UInt8) :: (111 : UInt8) :: (114 : UInt8) :: (101 : UInt8) :: ([] : List UInt8)))).length : Int) + (1 : Int))) = true →
 (!decide ((↑x.1.length : Int) ≤ (↑((114 : Int) :: List.map._f (fun b ↦ (↑b.toNat : Int)) ((101 : UInt8) :: (115 : UInt8) :: (116 : UInt8) :: (111 : UInt8) :: (114 : UInt8) :: (101 : UInt8) :: ([] : List UInt8)) (List.rec ⟨([] : List Int), PUnit.unit⟩ (fun head tail tail_ih ↦ ⟨List.map._f (fun b ↦ (↑b.toNat : Int)) (head :: tail) tail_ih, tail_ih⟩) ((115 : UInt8) :: (116 : UInt8) :: (111 : UInt8) :: (114 : UInt8) :: (101 : UInt8) :: ([] : List UInt8)))).length : Int) + (1 : Int))) = true ∧
 (!decide ((↑x.1.length : Int) ≤ (↑((114 : Int) :: List.map._f (fun b ↦ (↑b.toNat : Int)) ((101 : UInt8) :: (115 : UInt8) :: (116 : UInt8) :: (111 : UInt8) :: (114 : UInt8) :: (101 : UInt8) :: ([] : List UInt8)) (List.rec ⟨([] : List Int), PUnit.unit⟩ (fun head tail tail_ih ↦ ⟨List.map._f (fun b ↦ (↑b.toNat : Int)) (head :: tail) tail_ih, tail_ih⟩) ((115 : UInt8) :: (116 : UInt8) :: (111 : UInt8) :: (114 : UInt8) :: (101 : UInt8) :: ([] : List UInt8)))).length : Int) + (1 : Int))) = true) ∧
 (decide ((↑x.1.length : Int) ≤ (↑((114 : Int) :: List.map._f (fun b ↦ (↑b.toNat : Int)) ((101 : UInt8) :: (115 : UInt8) :: (116 : UInt8) :: (111 : UInt8) :: (114 : UInt8) :: (101 : UInt8) :: ([] : List UInt8)) (List.rec ⟨([] : List Int), PUnit.unit⟩ (fun head tail tail_ih ↦ ⟨List.map._f (fun b ↦ (↑b.toNat : Int)) (head :: tail) tail_ih, tail_ih⟩) ((115 : UInt8) :: (116 : UInt8) :: (111 : UInt8) :: (114 : UInt8) :: (101 : UInt8) :: ([] : List UInt8)))).length : Int) + (1 : Int)) = false →
 (!decide ((↑x.1.length : Int) ≤ (↑((114 : Int) :: List.map._f (fun b ↦ (↑b.toNat : Int)) ((101 : UInt8) :: (115 : UInt8) :: (116 : UInt8) :: (111 : UInt8) :: (114 : UInt8) :: (101 : UInt8) :: ([] : List UInt8)) (List.rec ⟨([] : List Int), PUnit.unit⟩ (fun head tail tail_ih ↦ ⟨List.map._f (fun b ↦ (↑b.toNat : Int)) (head :: tail) tail_ih, tail_ih⟩) ((115 : UInt8) :: (116 : UInt8) :: (111 : UInt8) :: (114 : UInt8) :: (101 : UInt8) :: ([] : List UInt8)))).length : Int) + (1 : Int))) = true) ∧
 ((decide ((↑x.1.length : Int) ≤ (↑((114 : Int) :: List.map._f (fun b ↦ (↑b.toNat : Int)) ((101 : UInt8) :: (115 : UInt8) :: (116 : UInt8) :: (111 : UInt8) :: (114 : UInt8) :: (101 : UInt8) :: ([] : List UInt8)) (List.rec ⟨([] : List Int), PUnit.unit⟩ (fun head tail tail_ih ↦ ⟨List.map._f (fun b ↦ (↑b.toNat : Int)) (head :: tail) tail_ih, tail_ih⟩) ((115 : UInt8) :: (116 : UInt8) :: (111 : UInt8) :: (114 : UInt8) :: (101 : UInt8) :: ([] : List UInt8)))).length : Int) + (1 : Int)) || !decide (List.drop (Int.toNat (0 : Int)) (List.take ((↑((114 : Int) :: List.map._f (fun b ↦ (↑b.toNat : Int)) ((101 : UInt8) :: (115 : UInt8) :: (116 : UInt8) :: (111 : UInt8) :: (114 : UInt8) :: (101 : UInt8) :: ([] : List UInt8)) (List.rec ⟨([] : List Int), PUnit.unit⟩ (fun head tail tail_ih ↦ ⟨List.map._f (fun b ↦ (↑b.toNat : Int)) (head :: tail) tail_ih, tail_ih⟩) ((115 : UInt8) :: (116 : UInt8) :: (111 : UInt8) :: (114 : UInt8) :: (101 : UInt8) :: ([] : List UInt8)))).length : Int) + (1 : Int)).toNat x.1) = (114 : Int) :: List.map._f (fun b ↦ (↑b.toNat : Int)) ((101 : UInt8) :: (115 : UInt8) :: (116 : UInt8) :: (111 : UInt8) :: (114 : UInt8) :: (101 : UInt8) :: ([] : List UInt8)) (List.rec ⟨([] : List Int), PUnit.unit⟩ (fun head tail tail_ih ↦ ⟨List.map._f (fun b ↦ (↑b.toNat : Int)) (head :: tail) tail_ih, tail_ih⟩) ((115 : UInt8) :: (116 : UInt8) :: (111 : UInt8) :: (114 : UInt8) :: (101 : UInt8) :: ([] : List UInt8))) ++ (32 : Int) :: ([] : List Int))) = true →
 ((-9223372036854775808 : Int) ≤ g.1 + (1 : Int) ∧
 g.1 + (1 : Int) ≤ (9223372036854775807 : Int)) ∧
 (((1 : Int) ≤ g.1 + (1 : Int) ∧
 g.1 + (1 : Int) ≤ (7 : Int) ∧
 zreadB x.1 = zreadO x.1 ((7 : Int) - (g.1 + (1 : Int))).toNat) ∧
 ((7 : Int) - (g.1 + (1 : Int))).toNat < ((7 : Int) - g.1).toNat) ∧
 (x.1 = x.1 ∧
 (True ∧
 True) ∧
 g.1 + (1 : Int) = g.1 + (1 : Int) ∧
 True) ∧
 ((RR (0 : Int) ∧
 RR (0 : Int) ∧
 RR (0 : Int) ∧
 RR (0 : Int) ∧
 True) ∧
 True) ∧
 True) ∧
 ((decide ((↑x.1.length : Int) ≤ (↑((114 : Int) :: List.map._f (fun b ↦ (↑b.toNat : Int)) ((101 : UInt8) :: (115 : UInt8) :: (116 : UInt8) :: (111 : UInt8) :: (114 : UInt8) :: (101 : UInt8) :: ([] : List UInt8)) (List.rec ⟨([] : List Int), PUnit.unit⟩ (fun head tail tail_ih ↦ ⟨List.map._f (fun b ↦ (↑b.toNat : Int)) (head :: tail) tail_ih, tail_ih⟩) ((115 : UInt8) :: (116 : UInt8) :: (111 : UInt8) :: (114 : UInt8) :: (101 : UInt8) :: ([] : List UInt8)))).length : Int) + (1 : Int)) || !decide (List.drop (Int.toNat (0 : Int)) (List.take ((↑((114 : Int) :: List.map._f (fun b ↦ (↑b.toNat : Int)) ((101 : UInt8) :: (115 : UInt8) :: (116 : UInt8) :: (111 : UInt8) :: (114 : UInt8) :: (101 : UInt8) :: ([] : List UInt8)) (List.rec ⟨([] : List Int), PUnit.unit⟩ (fun head tail tail_ih ↦ ⟨List.map._f (fun b ↦ (↑b.toNat : Int)) (head :: tail) tail_ih, tail_ih⟩) ((115 : UInt8) :: (116 : UInt8) :: (111 : UInt8) :: (114 : UInt8) :: (101 : UInt8) :: ([] : List UInt8)))).length : Int) + (1 : Int)).toNat x.1) = (114 : Int) :: List.map._f (fun b ↦ (↑b.toNat : Int)) ((101 : UInt8) :: (115 : UInt8) :: (116 : UInt8) :: (111 : UInt8) :: (114 : UInt8) :: (101 : UInt8) :: ([] : List UInt8)) (List.rec ⟨([] : List Int), PUnit.unit⟩ (fun head tail tail_ih ↦ ⟨List.map._f (fun b ↦ (↑b.toNat : Int)) (head :: tail) tail_ih, tail_ih⟩) ((115 : UInt8) :: (116 : UInt8) :: (111 : UInt8) :: (114 : UInt8) :: (101 : UInt8) :: ([] : List UInt8))) ++ (32 : Int) :: ([] : List Int))) = false →
 ((-9223372036854775808 : Int) ≤ (↑((114 : Int) :: List.map._f (fun b ↦ (↑b.toNat : Int)) ((101 : UInt8) :: (115 : UInt8) :: (116 : UInt8) :: (111 : UInt8) :: (114 : UInt8) :: (101 : UInt8) :: ([] : List UInt8)) (List.rec ⟨([] : List Int), PUnit.unit⟩ (fun head tail tail_ih ↦ ⟨List.map._f (fun b ↦ (↑b.toNat : Int)) (head :: tail) tail_ih, tail_ih⟩) ((115 : UInt8) :: (116 : UInt8) :: (111 : UInt8) :: (114 : UInt8) :: (101 : UInt8) :: ([] : List UInt8)))).length : Int) + (1 : Int) ∧
 (↑((114 : Int) :: List.map._f (fun b ↦ (↑b.toNat : Int)) ((101 : UInt8) :: (115 : UInt8) :: (116 : UInt8) :: (111 : UInt8) :: (114 : UInt8) :: (101 : UInt8) :: ([] : List UInt8)) (List.rec ⟨([] : List Int), PUnit.unit⟩ (fun head tail tail_ih ↦ ⟨List.map._f (fun b ↦ (↑b.toNat : Int)) (head :: tail) tail_ih, tail_ih⟩) ((115 : UInt8) :: (116 : UInt8) :: (111 : UInt8) :: (114 : UInt8) :: (101 : UInt8) :: ([] : List UInt8)))).length : Int) + (1 : Int) ≤ (9223372036854775807 : Int)) ∧
 (((0 : Int) ≤ (↑((114 : Int) :: List.map._f (fun b ↦ (↑b.toNat : Int)) ((101 : UInt8) :: (115 : UInt8) :: (116 : UInt8) :: (111 : UInt8) :: (114 : UInt8) :: (101 : UInt8) :: ([] : List UInt8)) (List.rec ⟨([] : List Int), PUnit.unit⟩ (fun head tail tail_ih ↦ ⟨List.map._f (fun b ↦ (↑b.toNat : Int)) (head :: tail) tail_ih, tail_ih⟩) ((115 : UInt8) :: (116 : UInt8) :: (111 : UInt8) :: (114 : UInt8) :: (101 : UInt8) :: ([] : List UInt8)))).length : Int) + (1 : Int) ∧
 (↑((114 : Int) :: List.map._f (fun b ↦ (↑b.toNat : Int)) ((101 : UInt8) :: (115 : UInt8) :: (116 : UInt8) :: (111 : UInt8) :: (114 : UInt8) :: (101 : UInt8) :: ([] : List UInt8)) (List.rec ⟨([] : List Int), PUnit.unit⟩ (fun head tail tail_ih ↦ ⟨List.map._f (fun b ↦ (↑b.toNat : Int)) (head :: tail) tail_ih, tail_ih⟩) ((115 : UInt8) :: (116 : UInt8) :: (111 : UInt8) :: (114 : UInt8) :: (101 : UInt8) :: ([] : List UInt8)))).length : Int) + (1 : Int) ≤ (↑x.1.length : Int)) ∧
 (↑x.1.length : Int) ≤ (↑x.1.length : Int)) ∧
 Holds ((List.drop ((↑((114 : Int) :: List.map._f (fun b ↦ (↑b.toNat : Int)) ((101 : UInt8) :: (115 : UInt8) :: (116 : UInt8) :: (111 : UInt8) :: (114 : UInt8) :: (101 : UInt8) :: ([] : List UInt8)) (List.rec ⟨([] : List Int), PUnit.unit⟩ (fun head tail tail_ih ↦ ⟨List.map._f (fun b ↦ (↑b.toNat : Int)) (head :: tail) tail_ih, tail_ih⟩) ((115 : UInt8) :: (116 : UInt8) :: (111 : UInt8) :: (114 : UInt8) :: (101 : UInt8) :: ([] : List UInt8)))).length : Int) + (1 : Int)).toNat (List.take (↑x.1.length : Int).toNat x.1)).length ≤ (1048576 : Nat) ∧
 RR (10 : Int) ∧
 (41 : Int) = (41 : Int)) ∧
 (pu41E (List.drop ((↑((114 : Int) :: List.map._f (fun b ↦ (↑b.toNat : Int)) ((101 : UInt8) :: (115 : UInt8) :: (116 : UInt8) :: (111 : UInt8) :: (114 : UInt8) :: (101 : UInt8) :: ([] : List UInt8)) (List.rec ⟨([] : List Int), PUnit.unit⟩ (fun head tail tail_ih ↦ ⟨List.map._f (fun b ↦ (↑b.toNat : Int)) (head :: tail) tail_ih, tail_ih⟩) ((115 : UInt8) :: (116 : UInt8) :: (111 : UInt8) :: (114 : UInt8) :: (101 : UInt8) :: ([] : List UInt8)))).length : Int) + (1 : Int)).toNat (List.take (↑x.1.length : Int).toNat x.1)) = false →
 (decide ((1099511627776 : Int) < pu41V (List.drop ((↑((114 : Int) :: List.map._f (fun b ↦ (↑b.toNat : Int)) ((101 : UInt8) :: (115 : UInt8) :: (116 : UInt8) :: (111 : UInt8) :: (114 : UInt8) :: (101 : UInt8) :: ([] : List UInt8)) (List.rec ⟨([] : List Int), PUnit.unit⟩ (fun head tail tail_ih ↦ ⟨List.map._f (fun b ↦ (↑b.toNat : Int)) (head :: tail) tail_ih, tail_ih⟩) ((115 : UInt8) :: (116 : UInt8) :: (111 : UInt8) :: (114 : UInt8) :: (101 : UInt8) :: ([] : List UInt8)))).length : Int) + (1 : Int)).toNat (List.take (↑x.1.length : Int).toNat x.1))) = false →
 Holds (pu41V (List.drop ((↑((114 : Int) :: List.map._f (fun b ↦ (↑b.toNat : Int)) ((101 : UInt8) :: (115 : UInt8) :: (116 : UInt8) :: (111 : UInt8) :: (114 : UInt8) :: (101 : UInt8) :: ([] : List UInt8)) (List.rec ⟨([] : List Int), PUnit.unit⟩ (fun head tail tail_ih ↦ ⟨List.map._f (fun b ↦ (↑b.toNat : Int)) (head :: tail) tail_ih, tail_ih⟩) ((115 : UInt8) :: (116 : UInt8) :: (111 : UInt8) :: (114 : UInt8) :: (101 : UInt8) :: ([] : List UInt8)))).length : Int) + (1 : Int)).toNat (List.take (↑x.1.length : Int).toNat x.1)) ≤ (1099511627776 : Int) ∧
 (10 : Int) = (10 : Int)) ∧
 ((-9223372036854775808 : Int) ≤ (↑((114 : Int) :: List.map._f (fun b ↦ (↑b.toNat : Int)) ((101 : UInt8) :: (115 : UInt8) :: (116 : UInt8) :: (111 : UInt8) :: (114 : UInt8) :: (101 : UInt8) :: ([] : List UInt8)) (List.rec ⟨([] : List Int), PUnit.unit⟩ (fun head tail tail_ih ↦ ⟨List.map._f (fun b ↦ (↑b.toNat : Int)) (head :: tail) tail_ih, tail_ih⟩) ((115 : UInt8) :: (116 : UInt8) :: (111 : UInt8) :: (114 : UInt8) :: (101 : UInt8) :: ([] : List UInt8)))).length : Int) + (1 : Int) ∧
 (↑((114 : Int) :: List.map._f (fun b ↦ (↑b.toNat : Int)) ((101 : UInt8) :: (115 : UInt8) :: (116 : UInt8) :: (111 : UInt8) :: (114 : UInt8) :: (101 : UInt8) :: ([] : List UInt8)) (List.rec ⟨([] : List Int), PUnit.unit⟩ (fun head tail tail_ih ↦ ⟨List.map._f (fun b ↦ (↑b.toNat : Int)) (head :: tail) tail_ih, tail_ih⟩) ((115 : UInt8) :: (116 : UInt8) :: (111 : UInt8) :: (114 : UInt8) :: (101 : UInt8) :: ([] : List UInt8)))).length : Int) + (1 : Int) ≤ (9223372036854775807 : Int)) ∧
 (((0 : Int) ≤ (↑((114 : Int) :: List.map._f (fun b ↦ (↑b.toNat : Int)) ((101 : UInt8) :: (115 : UInt8) :: (116 : UInt8) :: (111 : UInt8) :: (114 : UInt8) :: (101 : UInt8) :: ([] : List UInt8)) (List.rec ⟨([] : List Int), PUnit.unit⟩ (fun head tail tail_ih ↦ ⟨List.map._f (fun b ↦ (↑b.toNat : Int)) (head :: tail) tail_ih, tail_ih⟩) ((115 : UInt8) :: (116 : UInt8) :: (111 : UInt8) :: (114 : UInt8) :: (101 : UInt8) :: ([] : List UInt8)))).length : Int) + (1 : Int) ∧
 (↑((114 : Int) :: List.map._f (fun b ↦ (↑b.toNat : Int)) ((101 : UInt8) :: (115 : UInt8) :: (116 : UInt8) :: (111 : UInt8) :: (114 : UInt8) :: (101 : UInt8) :: ([] : List UInt8)) (List.rec ⟨([] : List Int), PUnit.unit⟩ (fun head tail tail_ih ↦ ⟨List.map._f (fun b ↦ (↑b.toNat : Int)) (head :: tail) tail_ih, tail_ih⟩) ((115 : UInt8) :: (116 : UInt8) :: (111 : UInt8) :: (114 : UInt8) :: (101 : UInt8) :: ([] : List UInt8)))).length : Int) + (1 : Int) ≤ (↑x.1.length : Int)) ∧
 (↑x.1.length : Int) ≤ (↑x.1.length : Int)) ∧
 ((!decide (dec (pu41V (List.drop ((↑((114 : Int) :: List.map._f (fun b ↦ (↑b.toNat : Int)) ((101 : UInt8) :: (115 : UInt8) :: (116 : UInt8) :: (111 : UInt8) :: (114 : UInt8) :: (101 : UInt8) :: ([] : List UInt8)) (List.rec ⟨([] : List Int), PUnit.unit⟩ (fun head tail tail_ih ↦ ⟨List.map._f (fun b ↦ (↑b.toNat : Int)) (head :: tail) tail_ih, tail_ih⟩) ((115 : UInt8) :: (116 : UInt8) :: (111 : UInt8) :: (114 : UInt8) :: (101 : UInt8) :: ([] : List UInt8)))).length : Int) + (1 : Int)).toNat (List.take (↑x.1.length : Int).toNat x.1))) = List.drop ((↑((114 : Int) :: List.map._f (fun b ↦ (↑b.toNat : Int)) ((101 : UInt8) :: (115 : UInt8) :: (116 : UInt8) :: (111 : UInt8) :: (114 : UInt8) :: (101 : UInt8) :: ([] : List UInt8)) (List.rec ⟨([] : List Int), PUnit.unit⟩ (fun head tail tail_ih ↦ ⟨List.map._f (fun b ↦ (↑b.toNat : Int)) (head :: tail) tail_ih, tail_ih⟩) ((115 : UInt8) :: (116 : UInt8) :: (111 : UInt8) :: (114 : UInt8) :: (101 : UInt8) :: ([] : List UInt8)))).length : Int) + (1 : Int)).toNat (List.take (↑x.1.length : Int).toNat x.1))) = false →
 ((g.1 == (1 : Int)) = true →
 (decide ((255 : Int) < pu41V (List.drop ((↑((114 : Int) :: List.map._f (fun b ↦ (↑b.toNat : Int)) ((101 : UInt8) :: (115 : UInt8) :: (116 : UInt8) :: (111 : UInt8) :: (114 : UInt8) :: (101 : UInt8) :: ([] : List UInt8)) (List.rec ⟨([] : List Int), PUnit.unit⟩ (fun head tail tail_ih ↦ ⟨List.map._f (fun b ↦ (↑b.toNat : Int)) (head :: tail) tail_ih, tail_ih⟩) ((115 : UInt8) :: (116 : UInt8) :: (111 : UInt8) :: (114 : UInt8) :: (101 : UInt8) :: ([] : List UInt8)))).length : Int) + (1 : Int)).toNat (List.take (↑x.1.length : Int).toNat x.1))) = true →
 ((0 : Int), (0 : Int), (0 : Int), (0 : Int)) = (zreadB x.1).1 ∧
 false = (zreadB x.1).2) ∧
 (decide ((255 : Int) < pu41V (List.drop ((↑((114 : Int) :: List.map._f (fun b ↦ (↑b.toNat : Int)) ((101 : UInt8) :: (115 : UInt8) :: (116 : UInt8) :: (111 : UInt8) :: (114 : UInt8) :: (101 : UInt8) :: ([] : List UInt8)) (List.rec ⟨([] : List Int), PUnit.unit⟩ (fun head tail tail_ih ↦ ⟨List.map._f (fun b ↦ (↑b.toNat : Int)) (head :: tail) tail_ih, tail_ih⟩) ((115 : UInt8) :: (116 : UInt8) :: (111 : UInt8) :: (114 : UInt8) :: (101 : UInt8) :: ([] : List UInt8)))).length : Int) + (1 : Int)).toNat (List.take (↑x.1.length : Int).toNat x.1))) = false →
 ((-9223372036854775808 : Int) ≤ pu41V (List.drop ((↑((114 : Int) :: List.map._f (fun b ↦ (↑b.toNat : Int)) ((101 : UInt8) :: (115 : UInt8) :: (116 : UInt8) :: (111 : UInt8) :: (114 : UInt8) :: (101 : UInt8) :: ([] : List UInt8)) (List.rec ⟨([] : List Int), PUnit.unit⟩ (fun head tail tail_ih ↦ ⟨List.map._f (fun b ↦ (↑b.toNat : Int)) (head :: tail) tail_ih, tail_ih⟩) ((115 : UInt8) :: (116 : UInt8) :: (111 : UInt8) :: (114 : UInt8) :: (101 : UInt8) :: ([] : List UInt8)))).length : Int) + (1 : Int)).toNat (List.take (↑x.1.length : Int).toNat x.1)) ∧
 pu41V (List.drop ((↑((114 : Int) :: List.map._f (fun b ↦ (↑b.toNat : Int)) ((101 : UInt8) :: (115 : UInt8) :: (116 : UInt8) :: (111 : UInt8) :: (114 : UInt8) :: (101 : UInt8) :: ([] : List UInt8)) (List.rec ⟨([] : List Int), PUnit.unit⟩ (fun head tail tail_ih ↦ ⟨List.map._f (fun b ↦ (↑b.toNat : Int)) (head :: tail) tail_ih, tail_ih⟩) ((115 : UInt8) :: (116 : UInt8) :: (111 : UInt8) :: (114 : UInt8) :: (101 : UInt8) :: ([] : List UInt8)))).length : Int) + (1 : Int)).toNat (List.take (↑x.1.length : Int).toNat x.1)) ≤ (9223372036854775807 : Int)) ∧
 ((g.1 == (1 : Int)) = true →
 ((0 : Int) ≤ pu41V (List.drop ((↑((114 : Int) :: List.map._f (fun b ↦ (↑b.toNat : Int)) ((101 : UInt8) :: (115 : UInt8) :: (116 : UInt8) :: (111 : UInt8) :: (114 : UInt8) :: (101 : UInt8) :: ([] : List UInt8)) (List.rec ⟨([] : List Int), PUnit.unit⟩ (fun head tail tail_ih ↦ ⟨List.map._f (fun b ↦ (↑b.toNat : Int)) (head :: tail) tail_ih, tail_ih⟩) ((115 : UInt8) :: (116 : UInt8) :: (111 : UInt8) :: (114 : UInt8) :: (101 : UInt8) :: ([] : List UInt8)))).length : Int) + (1 : Int)).toNat (List.take (↑x.1.length : Int).toNat x.1)) ∧
 pu41V (List.drop ((↑((114 : Int) :: List.map._f (fun b ↦ (↑b.toNat : Int)) ((101 : UInt8) :: (115 : UInt8) :: (116 : UInt8) :: (111 : UInt8) :: (114 : UInt8) :: (101 : UInt8) :: ([] : List UInt8)) (List.rec ⟨([] : List Int), PUnit.unit⟩ (fun head tail tail_ih ↦ ⟨List.map._f (fun b ↦ (↑b.toNat : Int)) (head :: tail) tail_ih, tail_ih⟩) ((115 : UInt8) :: (116 : UInt8) :: (111 : UInt8) :: (114 : UInt8) :: (101 : UInt8) :: ([] : List UInt8)))).length : Int) + (1 : Int)).toNat (List.take (↑x.1.length : Int).toNat x.1)) ≤ (255 : Int)) ∧
 (g.1, pu41V (List.drop ((↑((114 : Int) :: List.map._f (fun b ↦ (↑b.toNat : Int)) ((101 : UInt8) :: (115 : UInt8) :: (116 : UInt8) :: (111 : UInt8) :: (114 : UInt8) :: (101 : UInt8) :: ([] : List UInt8)) (List.rec ⟨([] : List Int), PUnit.unit⟩ (fun head tail tail_ih ↦ ⟨List.map._f (fun b ↦ (↑b.toNat : Int)) (head :: tail) tail_ih, tail_ih⟩) ((115 : UInt8) :: (116 : UInt8) :: (111 : UInt8) :: (114 : UInt8) :: (101 : UInt8) :: ([] : List UInt8)))).length : Int) + (1 : Int)).toNat (List.take (↑x.1.length : Int).toNat x.1)), (0 : Int), pu41V (List.drop ((↑((114 : Int) :: List.map._f (fun b ↦ (↑b.toNat : Int)) ((101 : UInt8) :: (115 : UInt8) :: (116 : UInt8) :: (111 : UInt8) :: (114 : UInt8) :: (101 : UInt8) :: ([] : List UInt8)) (List.rec ⟨([] : List Int), PUnit.unit⟩ (fun head tail tail_ih ↦ ⟨List.map._f (fun b ↦ (↑b.toNat : Int)) (head :: tail) tail_ih, tail_ih⟩) ((115 : UInt8) :: (116 : UInt8) :: (111 : UInt8) :: (114 : UInt8) :: (101 : UInt8) :: ([] : List UInt8)))).length : Int) + (1 : Int)).toNat (List.take (↑x.1.length : Int).toNat x.1))) = (zreadB x.1).1 ∧
 true = (zreadB x.1).2) ∧
 ((g.1 == (1 : Int)) = false →
 (g.1, pu41V (List.drop ((↑((114 : Int) :: List.map._f (fun b ↦ (↑b.toNat : Int)) ((101 : UInt8) :: (115 : UInt8) :: (116 : UInt8) :: (111 : UInt8) :: (114 : UInt8) :: (101 : UInt8) :: ([] : List UInt8)) (List.rec ⟨([] : List Int), PUnit.unit⟩ (fun head tail tail_ih ↦ ⟨List.map._f (fun b ↦ (↑b.toNat : Int)) (head :: tail) tail_ih, tail_ih⟩) ((115 : UInt8) :: (116 : UInt8) :: (111 : UInt8) :: (114 : UInt8) :: (101 : UInt8) :: ([] : List UInt8)))).length : Int) + (1 : Int)).toNat (List.take (↑x.1.length : Int).toNat x.1)), (0 : Int), (0 : Int)) = (zreadB x.1).1 ∧
 true = (zreadB x.1).2))) ∧
 ((g.1 == (1 : Int)) = !true →
 ((-9223372036854775808 : Int) ≤ pu41V (List.drop ((↑((114 : Int) :: List.map._f (fun b ↦ (↑b.toNat : Int)) ((101 : UInt8) :: (115 : UInt8) :: (116 : UInt8) :: (111 : UInt8) :: (114 : UInt8) :: (101 : UInt8) :: ([] : List UInt8)) (List.rec ⟨([] : List Int), PUnit.unit⟩ (fun head tail tail_ih ↦ ⟨List.map._f (fun b ↦ (↑b.toNat : Int)) (head :: tail) tail_ih, tail_ih⟩) ((115 : UInt8) :: (116 : UInt8) :: (111 : UInt8) :: (114 : UInt8) :: (101 : UInt8) :: ([] : List UInt8)))).length : Int) + (1 : Int)).toNat (List.take (↑x.1.length : Int).toNat x.1)) ∧
 pu41V (List.drop ((↑((114 : Int) :: List.map._f (fun b ↦ (↑b.toNat : Int)) ((101 : UInt8) :: (115 : UInt8) :: (116 : UInt8) :: (111 : UInt8) :: (114 : UInt8) :: (101 : UInt8) :: ([] : List UInt8)) (List.rec ⟨([] : List Int), PUnit.unit⟩ (fun head tail tail_ih ↦ ⟨List.map._f (fun b ↦ (↑b.toNat : Int)) (head :: tail) tail_ih, tail_ih⟩) ((115 : UInt8) :: (116 : UInt8) :: (111 : UInt8) :: (114 : UInt8) :: (101 : UInt8) :: ([] : List UInt8)))).length : Int) + (1 : Int)).toNat (List.take (↑x.1.length : Int).toNat x.1)) ≤ (9223372036854775807 : Int)) ∧
 ((g.1 == (1 : Int)) = true →
 ((0 : Int) ≤ pu41V (List.drop ((↑((114 : Int) :: List.map._f (fun b ↦ (↑b.toNat : Int)) ((101 : UInt8) :: (115 : UInt8) :: (116 : UInt8) :: (111 : UInt8) :: (114 : UInt8) :: (101 : UInt8) :: ([] : List UInt8)) (List.rec ⟨([] : List Int), PUnit.unit⟩ (fun head tail tail_ih ↦ ⟨List.map._f (fun b ↦ (↑b.toNat : Int)) (head :: tail) tail_ih, tail_ih⟩) ((115 : UInt8) :: (116 : UInt8) :: (111 : UInt8) :: (114 : UInt8) :: (101 : UInt8) :: ([] : List UInt8)))).length : Int) + (1 : Int)).toNat (List.take (↑x.1.length : Int).toNat x.1)) ∧
 pu41V (List.drop ((↑((114 : Int) :: List.map._f (fun b ↦ (↑b.toNat : Int)) ((101 : UInt8) :: (115 : UInt8) :: (116 : UInt8) :: (111 : UInt8) :: (114 : UInt8) :: (101 : UInt8) :: ([] : List UInt8)) (List.rec ⟨([] : List Int), PUnit.unit⟩ (fun head tail tail_ih ↦ ⟨List.map._f (fun b ↦ (↑b.toNat : Int)) (head :: tail) tail_ih, tail_ih⟩) ((115 : UInt8) :: (116 : UInt8) :: (111 : UInt8) :: (114 : UInt8) :: (101 : UInt8) :: ([] : List UInt8)))).length : Int) + (1 : Int)).toNat (List.take (↑x.1.length : Int).toNat x.1)) ≤ (255 : Int)) ∧
 (g.1, pu41V (List.drop ((↑((114 : Int) :: List.map._f (fun b ↦ (↑b.toNat : Int)) ((101 : UInt8) :: (115 : UInt8) :: (116 : UInt8) :: (111 : UInt8) :: (114 : UInt8) :: (101 : UInt8) :: ([] : List UInt8)) (List.rec ⟨([] : List Int), PUnit.unit⟩ (fun head tail tail_ih ↦ ⟨List.map._f (fun b ↦ (↑b.toNat : Int)) (head :: tail) tail_ih, tail_ih⟩) ((115 : UInt8) :: (116 : UInt8) :: (111 : UInt8) :: (114 : UInt8) :: (101 : UInt8) :: ([] : List UInt8)))).length : Int) + (1 : Int)).toNat (List.take (↑x.1.length : Int).toNat x.1)), (0 : Int), pu41V (List.drop ((↑((114 : Int) :: List.map._f (fun b ↦ (↑b.toNat : Int)) ((101 : UInt8) :: (115 : UInt8) :: (116 : UInt8) :: (111 : UInt8) :: (114 : UInt8) :: (101 : UInt8) :: ([] : List UInt8)) (List.rec ⟨([] : List Int), PUnit.unit⟩ (fun head tail tail_ih ↦ ⟨List.map._f (fun b ↦ (↑b.toNat : Int)) (head :: tail) tail_ih, tail_ih⟩) ((115 : UInt8) :: (116 : UInt8) :: (111 : UInt8) :: (114 : UInt8) :: (101 : UInt8) :: ([] : List UInt8)))).length : Int) + (1 : Int)).toNat (List.take (↑x.1.length : Int).toNat x.1))) = (zreadB x.1).1 ∧
 true = (zreadB x.1).2) ∧
 ((g.1 == (1 : Int)) = false →
 (g.1, pu41V (List.drop ((↑((114 : Int) :: List.map._f (fun b ↦ (↑b.toNat : Int)) ((101 : UInt8) :: (115 : UInt8) :: (116 : UInt8) :: (111 : UInt8) :: (114 : UInt8) :: (101 : UInt8) :: ([] : List UInt8)) (List.rec ⟨([] : List Int), PUnit.unit⟩ (fun head tail tail_ih ↦ ⟨List.map._f (fun b ↦ (↑b.toNat : Int)) (head :: tail) tail_ih, tail_ih⟩) ((115 : UInt8) :: (116 : UInt8) :: (111 : UInt8) :: (114 : UInt8) :: (101 : UInt8) :: ([] : List UInt8)))).length : Int) + (1 : Int)).toNat (List.take (↑x.1.length : Int).toNat x.1)), (0 : Int), (0 : Int)) = (zreadB x.1).1 ∧
 true = (zreadB x.1).2))) ∧
 ((!decide (dec (pu41V (List.drop ((↑((114 : Int) :: List.map._f (fun b ↦ (↑b.toNat : Int)) ((101 : UInt8) :: (115 : UInt8) :: (116 : UInt8) :: (111 : UInt8) :: (114 : UInt8) :: (101 : UInt8) :: ([] : List UInt8)) (List.rec ⟨([] : List Int), PUnit.unit⟩ (fun head tail tail_ih ↦ ⟨List.map._f (fun b ↦ (↑b.toNat : Int)) (head :: tail) tail_ih, tail_ih⟩) ((115 : UInt8) :: (116 : UInt8) :: (111 : UInt8) :: (114 : UInt8) :: (101 : UInt8) :: ([] : List UInt8)))).length : Int) + (1 : Int)).toNat (List.take (↑x.1.length : Int).toNat x.1))) = List.drop ((↑((114 : Int) :: List.map._f (fun b ↦ (↑b.toNat : Int)) ((101 : UInt8) :: (115 : UInt8) :: (116 : UInt8) :: (111 : UInt8) :: (114 : UInt8) :: (101 : UInt8) :: ([] : List UInt8)) (List.rec ⟨([] : List Int), PUnit.unit⟩ (fun head tail tail_ih ↦ ⟨List.map._f (fun b ↦ (↑b.toNat : Int)) (head :: tail) tail_ih, tail_ih⟩) ((115 : UInt8) :: (116 : UInt8) :: (111 : UInt8) :: (114 : UInt8) :: (101 : UInt8) :: ([] : List UInt8)))).length : Int) + (1 : Int)).toNat (List.take (↑x.1.length : Int).toNat x.1))) = !false →
 ((0 : Int), (0 : Int), (0 : Int), (0 : Int)) = (zreadB x.1).1 ∧
 false = (zreadB x.1).2)) ∧
 (decide ((1099511627776 : Int) < pu41V (List.drop ((↑((114 : Int) :: List.map._f (fun b ↦ (↑b.toNat : Int)) ((101 : UInt8) :: (115 : UInt8) :: (116 : UInt8) :: (111 : UInt8) :: (114 : UInt8) :: (101 : UInt8) :: ([] : List UInt8)) (List.rec ⟨([] : List Int), PUnit.unit⟩ (fun head tail tail_ih ↦ ⟨List.map._f (fun b ↦ (↑b.toNat : Int)) (head :: tail) tail_ih, tail_ih⟩) ((115 : UInt8) :: (116 : UInt8) :: (111 : UInt8) :: (114 : UInt8) :: (101 : UInt8) :: ([] : List UInt8)))).length : Int) + (1 : Int)).toNat (List.take (↑x.1.length : Int).toNat x.1))) = !false →
 ((0 : Int), (0 : Int), (0 : Int), (0 : Int)) = (zreadB x.1).1 ∧
 false = (zreadB x.1).2)) ∧
 (pu41E (List.drop ((↑((114 : Int) :: List.map._f (fun b ↦ (↑b.toNat : Int)) ((101 : UInt8) :: (115 : UInt8) :: (116 : UInt8) :: (111 : UInt8) :: (114 : UInt8) :: (101 : UInt8) :: ([] : List UInt8)) (List.rec ⟨([] : List Int), PUnit.unit⟩ (fun head tail tail_ih ↦ ⟨List.map._f (fun b ↦ (↑b.toNat : Int)) (head :: tail) tail_ih, tail_ih⟩) ((115 : UInt8) :: (116 : UInt8) :: (111 : UInt8) :: (114 : UInt8) :: (101 : UInt8) :: ([] : List UInt8)))).length : Int) + (1 : Int)).toNat (List.take (↑x.1.length : Int).toNat x.1)) = !false →
 ((0 : Int), (0 : Int), (0 : Int), (0 : Int)) = (zreadB x.1).1 ∧
 false = (zreadB x.1).2))) ∧
 ((g.1 == (5 : Int)) = false →
 ((g.1 == (6 : Int)) = true →
 ((-9223372036854775808 : Int) ≤ (↑((109 : Int) :: List.map._f (fun b ↦ (↑b.toNat : Int)) ((111 : UInt8) :: (118 : UInt8) :: (101 : UInt8) :: ([] : List UInt8)) (List.rec ⟨([] : List Int), PUnit.unit⟩ (fun head tail tail_ih ↦ ⟨List.map._f (fun b ↦ (↑b.toNat : Int)) (head :: tail) tail_ih, tail_ih⟩) ((118 : UInt8) :: (101 : UInt8) :: ([] : List UInt8)))).length : Int) + (1 : Int) ∧
 (↑((109 : Int) :: List.map._f (fun b ↦ (↑b.toNat : Int)) ((111 : UInt8) :: (118 : UInt8) :: (101 : UInt8) :: ([] : List UInt8)) (List.rec ⟨([] : List Int), PUnit.unit⟩ (fun head tail tail_ih ↦ ⟨List.map._f (fun b ↦ (↑b.toNat : Int)) (head :: tail) tail_ih, tail_ih⟩) ((118 : UInt8) :: (101 : UInt8) :: ([] : List UInt8)))).length : Int) + (1 : Int) ≤ (9223372036854775807 : Int)) ∧
 ((!decide ((↑x.1.length : Int) ≤ (↑((109 : Int) :: List.map._f (fun b ↦ (↑b.toNat : Int)) ((111 : UInt8) :: (118 : UInt8) :: (101 : UInt8) :: ([] : List UInt8)) (List.rec ⟨([] : List Int), PUnit.unit⟩ (fun head tail tail_ih ↦ ⟨List.map._f (fun b ↦ (↑b.toNat : Int)) (head :: tail) tail_ih, tail_ih⟩) ((118 : UInt8) :: (101 : UInt8) :: ([] : List UInt8)))).length : Int) + (1 : Int))) = true →
 (!decide ((↑x.1.length : Int) ≤ (↑((109 : Int) :: List.map._f (fun b ↦ (↑b.toNat : Int)) ((111 : UInt8) :: (118 : UInt8) :: (101 : UInt8) :: ([] : List UInt8)) (List.rec ⟨([] : List Int), PUnit.unit⟩ (fun head tail tail_ih ↦ ⟨List.map._f (fun b ↦ (↑b.toNat : Int)) (head :: tail) tail_ih, tail_ih⟩) ((118 : UInt8) :: (101 : UInt8) :: ([] : List UInt8)))).length : Int) + (1 : Int))) = true) ∧
 ((!decide ((↑x.1.length : Int) ≤ (↑((109 : Int) :: List.map._f (fun b ↦ (↑b.toNat : Int)) ((111 : UInt8) :: (118 : UInt8) :: (101 : UInt8) :: ([] : List UInt8)) (List.rec ⟨([] : List Int), PUnit.unit⟩ (fun head tail tail_ih ↦ ⟨List.map._f (fun b ↦ (↑b.toNat : Int)) (head :: tail) tail_ih, tail_ih⟩) ((118 : UInt8) :: (101 : UInt8) :: ([] : List UInt8)))).length : Int) + (1 : Int))) = true →
 (!decide ((↑x.1.length : Int) ≤ (↑((109 : Int) :: List.map._f (fun b ↦ (↑b.toNat : Int)) ((111 : UInt8) :: (118 : UInt8) :: (101 : UInt8) :: ([] : List UInt8)) (List.rec ⟨([] : List Int), PUnit.unit⟩ (fun head tail tail_ih ↦ ⟨List.map._f (fun b ↦ (↑b.toNat : Int)) (head :: tail) tail_ih, tail_ih⟩) ((118 : UInt8) :: (101 : UInt8) :: ([] : List UInt8)))).length : Int) + (1 : Int))) = true ∧
 (-9223372036854775808 : Int) ≤ (↑((109 : Int) :: List.map._f (fun b ↦ (↑b.toNat : Int)) ((111 : UInt8) :: (118 : UInt8) :: (101 : UInt8) :: ([] : List UInt8)) (List.rec ⟨([] : List Int), PUnit.unit⟩ (fun head tail tail_ih ↦ ⟨List.map._f (fun b ↦ (↑b.toNat : Int)) (head :: tail) tail_ih, tail_ih⟩) ((118 : UInt8) :: (101 : UInt8) :: ([] : List UInt8)))).length : Int) + (1 : Int) ∧
 (↑((109 : Int) :: List.map._f (fun b ↦ (↑b.toNat : Int)) ((111 : UInt8) :: (118 : UInt8) :: (101 : UInt8) :: ([] : List UInt8)) (List.rec ⟨([] : List Int), PUnit.unit⟩ (fun head tail tail_ih ↦ ⟨List.map._f (fun b ↦ (↑b.toNat : Int)) (head :: tail) tail_ih, tail_ih⟩) ((118 : UInt8) :: (101 : UInt8) :: ([] : List UInt8)))).length : Int) + (1 : Int) ≤ (9223372036854775807 : Int)) ∧
 ((!decide ((↑x.1.length : Int) ≤ (↑((109 : Int) :: List.map._f (fun b ↦ (↑b.toNat : Int)) ((111 : UInt8) :: (118 : UInt8) :: (101 : UInt8) :: ([] : List UInt8)) (List.rec ⟨([] : List Int), PUnit.unit⟩ (fun head tail tail_ih ↦ ⟨List.map._f (fun b ↦ (↑b.toNat : Int)) (head :: tail) tail_ih, tail_ih⟩) ((118 : UInt8) :: (101 : UInt8) :: ([] : List UInt8)))).length : Int) + (1 : Int))) = true →
 ((!decide ((↑x.1.length : Int) ≤ (↑((109 : Int) :: List.map._f (fun b ↦ (↑b.toNat : Int)) ((111 : UInt8) :: (118 : UInt8) :: (101 : UInt8) :: ([] : List UInt8)) (List.rec ⟨([] : List Int), PUnit.unit⟩ (fun head tail tail_ih ↦ ⟨List.map._f (fun b ↦ (↑b.toNat : Int)) (head :: tail) tail_ih, tail_ih⟩) ((118 : UInt8) :: (101 : UInt8) :: ([] : List UInt8)))).length : Int) + (1 : Int))) = true ∧
 (!decide ((↑x.1.length : Int) ≤ (↑((109 : Int) :: List.map._f (fun b ↦ (↑b.toNat : Int)) ((111 : UInt8) :: (118 : UInt8) :: (101 : UInt8) :: ([] : List UInt8)) (List.rec ⟨([] : List Int), PUnit.unit⟩ (fun head tail tail_ih ↦ ⟨List.map._f (fun b ↦ (↑b.toNat : Int)) (head :: tail) tail_ih, tail_ih⟩) ((118 : UInt8) :: (101 : UInt8) :: ([] : List UInt8)))).length : Int) + (1 : Int))) = true) ∧
 ((0 : Int) ≤ (0 : Int) ∧
 (0 : Int) ≤ (↑((109 : Int) :: List.map._f (fun b ↦ (↑b.toNat : Int)) ((111 : UInt8) :: (118 : UInt8) :: (101 : UInt8) :: ([] : List UInt8)) (List.rec ⟨([] : List Int), PUnit.unit⟩ (fun head tail tail_ih ↦ ⟨List.map._f (fun b ↦ (↑b.toNat : Int)) (head :: tail) tail_ih, tail_ih⟩) ((118 : UInt8) :: (101 : UInt8) :: ([] : List UInt8)))).length : Int) + (1 : Int)) ∧
 (↑((109 : Int) :: List.map._f (fun b ↦ (↑b.toNat : Int)) ((111 : UInt8) :: (118 : UInt8) :: (101 : UInt8) :: ([] : List UInt8)) (List.rec ⟨([] : List Int), PUnit.unit⟩ (fun head tail tail_ih ↦ ⟨List.map._f (fun b ↦ (↑b.toNat : Int)) (head :: tail) tail_ih, tail_ih⟩) ((118 : UInt8) :: (101 : UInt8) :: ([] : List UInt8)))).length : Int) + (1 : Int) ≤ (↑x.1.length : Int)) ∧
 ((!decide ((↑x.1.length : Int) ≤ (↑((109 : Int) :: List.map._f (fun b ↦ (↑b.toNat : Int)) ((111 : UInt8) :: (118 : UInt8) :: (101 : UInt8) :: ([] : List UInt8)) (List.rec ⟨([] : List Int), PUnit.unit⟩ (fun head tail tail_ih ↦ ⟨List.map._f (fun b ↦ (↑b.toNat : Int)) (head :: tail) tail_ih, tail_ih⟩) ((118 : UInt8) :: (101 : UInt8) :: ([] : List UInt8)))).length : Int) + (1 : Int))) = true →
 (!decide ((↑x.1.length : Int) ≤ (↑((109 : Int) :: List.map._f (fun b ↦ (↑b.toNat : Int)) ((111 : UInt8) :: (118 : UInt8) :: (101 : UInt8) :: ([] : List UInt8)) (List.rec ⟨([] : List Int), PUnit.unit⟩ (fun head tail tail_ih ↦ ⟨List.map._f (fun b ↦ (↑b.toNat : Int)) (head :: tail) tail_ih, tail_ih⟩) ((118 : UInt8) :: (101 : UInt8) :: ([] : List UInt8)))).length : Int) + (1 : Int))) = true ∧
 ((109 : Int) :: List.map._f (fun b ↦ (↑b.toNat : Int)) ((111 : UInt8) :: (118 : UInt8) :: (101 : UInt8) :: ([] : List UInt8)) (List.rec ⟨([] : List Int), PUnit.unit⟩ (fun head tail tail_ih ↦ ⟨List.map._f (fun b ↦ (↑b.toNat : Int)) (head :: tail) tail_ih, tail_ih⟩) ((118 : UInt8) :: (101 : UInt8) :: ([] : List UInt8)))).length + ((32 : Int) :: ([] : List Int)).length ≤ (9223372036854775807 : Nat)) ∧
 ((!decide ((↑x.1.length : Int) ≤ (↑((109 : Int) :: List.map._f (fun b ↦ (↑b.toNat : Int)) ((111 : UInt8) :: (118 : UInt8) :: (101 : UInt8) :: ([] : List UInt8)) (List.rec ⟨([] : List Int), PUnit.unit⟩ (fun head tail tail_ih ↦ ⟨List.map._f (fun b ↦ (↑b.toNat : Int)) (head :: tail) tail_ih, tail_ih⟩) ((118 : UInt8) :: (101 : UInt8) :: ([] : List UInt8)))).length : Int) + (1 : Int))) = true →
 (!decide ((↑x.1.length : Int) ≤ (↑((109 : Int) :: List.map._f (fun b ↦ (↑b.toNat : Int)) ((111 : UInt8) :: (118 : UInt8) :: (101 : UInt8) :: ([] : List UInt8)) (List.rec ⟨([] : List Int), PUnit.unit⟩ (fun head tail tail_ih ↦ ⟨List.map._f (fun b ↦ (↑b.toNat : Int)) (head :: tail) tail_ih, tail_ih⟩) ((118 : UInt8) :: (101 : UInt8) :: ([] : List UInt8)))).length : Int) + (1 : Int))) = true ∧
 (!decide ((↑x.1.length : Int) ≤ (↑((109 : Int) :: List.map._f (fun b ↦ (↑b.toNat : Int)) ((111 : UInt8) :: (118 : UInt8) :: (101 : UInt8) :: ([] : List UInt8)) (List.rec ⟨([] : List Int), PUnit.unit⟩ (fun head tail tail_ih ↦ ⟨List.map._f (fun b ↦ (↑b.toNat : Int)) (head :: tail) tail_ih, tail_ih⟩) ((118 : UInt8) :: (101 : UInt8) :: ([] : List UInt8)))).length : Int) + (1 : Int))) = true) ∧
 (decide ((↑x.1.length : Int) ≤ (↑((109 : Int) :: List.map._f (fun b ↦ (↑b.toNat : Int)) ((111 : UInt8) :: (118 : UInt8) :: (101 : UInt8) :: ([] : List UInt8)) (List.rec ⟨([] : List Int), PUnit.unit⟩ (fun head tail tail_ih ↦ ⟨List.map._f (fun b ↦ (↑b.toNat : Int)) (head :: tail) tail_ih, tail_ih⟩) ((118 : UInt8) :: (101 : UInt8) :: ([] : List UInt8)))).length : Int) + (1 : Int)) = false →
 (!decide ((↑x.1.length : Int) ≤ (↑((109 : Int) :: List.map._f (fun b ↦ (↑b.toNat : Int)) ((111 : UInt8) :: (118 : UInt8) :: (101 : UInt8) :: ([] : List UInt8)) (List.rec ⟨([] : List Int), PUnit.unit⟩ (fun head tail tail_ih ↦ ⟨List.map._f (fun b ↦ (↑b.toNat : Int)) (head :: tail) tail_ih, tail_ih⟩) ((118 : UInt8) :: (101 : UInt8) :: ([] : List UInt8)))).length : Int) + (1 : Int))) = true) ∧
 ((decide ((↑x.1.length : Int) ≤ (↑((109 : Int) :: List.map._f (fun b ↦ (↑b.toNat : Int)) ((111 : UInt8) :: (118 : UInt8) :: (101 : UInt8) :: ([] : List UInt8)) (List.rec ⟨([] : List Int), PUnit.unit⟩ (fun head tail tail_ih ↦ ⟨List.map._f (fun b ↦ (↑b.toNat : Int)) (head :: tail) tail_ih, tail_ih⟩) ((118 : UInt8) :: (101 : UInt8) :: ([] : List UInt8)))).length : Int) + (1 : Int)) || !decide (List.drop (Int.toNat (0 : Int)) (List.take ((↑((109 : Int) :: List.map._f (fun b ↦ (↑b.toNat : Int)) ((111 : UInt8) :: (118 : UInt8) :: (101 : UInt8) :: ([] : List UInt8)) (List.rec ⟨([] : List Int), PUnit.unit⟩ (fun head tail tail_ih ↦ ⟨List.map._f (fun b ↦ (↑b.toNat : Int)) (head :: tail) tail_ih, tail_ih⟩) ((118 : UInt8) :: (101 : UInt8) :: ([] : List UInt8)))).length : Int) + (1 : Int)).toNat x.1) = (109 : Int) :: List.map._f (fun b ↦ (↑b.toNat : Int)) ((111 : UInt8) :: (118 : UInt8) :: (101 : UInt8) :: ([] : List UInt8)) (List.rec ⟨([] : List Int), PUnit.unit⟩ (fun head tail tail_ih ↦ ⟨List.map._f (fun b ↦ (↑b.toNat : Int)) (head :: tail) tail_ih, tail_ih⟩) ((118 : UInt8) :: (101 : UInt8) :: ([] : List UInt8))) ++ (32 : Int) :: ([] : List Int))) = true →
 ((-9223372036854775808 : Int) ≤ g.1 + (1 : Int) ∧
 g.1 + (1 : Int) ≤ (9223372036854775807 : Int)) ∧
 (((1 : Int) ≤ g.1 + (1 : Int) ∧
 g.1 + (1 : Int) ≤ (7 : Int) ∧
 zreadB x.1 = zreadO x.1 ((7 : Int) - (g.1 + (1 : Int))).toNat) ∧
 ((7 : Int) - (g.1 + (1 : Int))).toNat < ((7 : Int) - g.1).toNat) ∧
 (x.1 = x.1 ∧
 (True ∧
 True) ∧
 g.1 + (1 : Int) = g.1 + (1 : Int) ∧
 True) ∧
 ((RR (0 : Int) ∧
 RR (0 : Int) ∧
 RR (0 : Int) ∧
 RR (0 : Int) ∧
 True) ∧
 True) ∧
 True) ∧
 ((decide ((↑x.1.length : Int) ≤ (↑((109 : Int) :: List.map._f (fun b ↦ (↑b.toNat : Int)) ((111 : UInt8) :: (118 : UInt8) :: (101 : UInt8) :: ([] : List UInt8)) (List.rec ⟨([] : List Int), PUnit.unit⟩ (fun head tail tail_ih ↦ ⟨List.map._f (fun b ↦ (↑b.toNat : Int)) (head :: tail) tail_ih, tail_ih⟩) ((118 : UInt8) :: (101 : UInt8) :: ([] : List UInt8)))).length : Int) + (1 : Int)) || !decide (List.drop (Int.toNat (0 : Int)) (List.take ((↑((109 : Int) :: List.map._f (fun b ↦ (↑b.toNat : Int)) ((111 : UInt8) :: (118 : UInt8) :: (101 : UInt8) :: ([] : List UInt8)) (List.rec ⟨([] : List Int), PUnit.unit⟩ (fun head tail tail_ih ↦ ⟨List.map._f (fun b ↦ (↑b.toNat : Int)) (head :: tail) tail_ih, tail_ih⟩) ((118 : UInt8) :: (101 : UInt8) :: ([] : List UInt8)))).length : Int) + (1 : Int)).toNat x.1) = (109 : Int) :: List.map._f (fun b ↦ (↑b.toNat : Int)) ((111 : UInt8) :: (118 : UInt8) :: (101 : UInt8) :: ([] : List UInt8)) (List.rec ⟨([] : List Int), PUnit.unit⟩ (fun head tail tail_ih ↦ ⟨List.map._f (fun b ↦ (↑b.toNat : Int)) (head :: tail) tail_ih, tail_ih⟩) ((118 : UInt8) :: (101 : UInt8) :: ([] : List UInt8))) ++ (32 : Int) :: ([] : List Int))) = false →
 ((-9223372036854775808 : Int) ≤ (↑((109 : Int) :: List.map._f (fun b ↦ (↑b.toNat : Int)) ((111 : UInt8) :: (118 : UInt8) :: (101 : UInt8) :: ([] : List UInt8)) (List.rec ⟨([] : List Int), PUnit.unit⟩ (fun head tail tail_ih ↦ ⟨List.map._f (fun b ↦ (↑b.toNat : Int)) (head :: tail) tail_ih, tail_ih⟩) ((118 : UInt8) :: (101 : UInt8) :: ([] : List UInt8)))).length : Int) + (1 : Int) ∧
 (↑((109 : Int) :: List.map._f (fun b ↦ (↑b.toNat : Int)) ((111 : UInt8) :: (118 : UInt8) :: (101 : UInt8) :: ([] : List UInt8)) (List.rec ⟨([] : List Int), PUnit.unit⟩ (fun head tail tail_ih ↦ ⟨List.map._f (fun b ↦ (↑b.toNat : Int)) (head :: tail) tail_ih, tail_ih⟩) ((118 : UInt8) :: (101 : UInt8) :: ([] : List UInt8)))).length : Int) + (1 : Int) ≤ (9223372036854775807 : Int)) ∧
 (((0 : Int) ≤ (↑((109 : Int) :: List.map._f (fun b ↦ (↑b.toNat : Int)) ((111 : UInt8) :: (118 : UInt8) :: (101 : UInt8) :: ([] : List UInt8)) (List.rec ⟨([] : List Int), PUnit.unit⟩ (fun head tail tail_ih ↦ ⟨List.map._f (fun b ↦ (↑b.toNat : Int)) (head :: tail) tail_ih, tail_ih⟩) ((118 : UInt8) :: (101 : UInt8) :: ([] : List UInt8)))).length : Int) + (1 : Int) ∧
 (↑((109 : Int) :: List.map._f (fun b ↦ (↑b.toNat : Int)) ((111 : UInt8) :: (118 : UInt8) :: (101 : UInt8) :: ([] : List UInt8)) (List.rec ⟨([] : List Int), PUnit.unit⟩ (fun head tail tail_ih ↦ ⟨List.map._f (fun b ↦ (↑b.toNat : Int)) (head :: tail) tail_ih, tail_ih⟩) ((118 : UInt8) :: (101 : UInt8) :: ([] : List UInt8)))).length : Int) + (1 : Int) ≤ (↑x.1.length : Int)) ∧
 (↑x.1.length : Int) ≤ (↑x.1.length : Int)) ∧
 Holds ((List.drop ((↑((109 : Int) :: List.map._f (fun b ↦ (↑b.toNat : Int)) ((111 : UInt8) :: (118 : UInt8) :: (101 : UInt8) :: ([] : List UInt8)) (List.rec ⟨([] : List Int), PUnit.unit⟩ (fun head tail tail_ih ↦ ⟨List.map._f (fun b ↦ (↑b.toNat : Int)) (head :: tail) tail_ih, tail_ih⟩) ((118 : UInt8) :: (101 : UInt8) :: ([] : List UInt8)))).length : Int) + (1 : Int)).toNat (List.take (↑x.1.length : Int).toNat x.1)).length ≤ (1048576 : Nat) ∧
 RR (10 : Int) ∧
 (41 : Int) = (41 : Int)) ∧
 (pu41E (List.drop ((↑((109 : Int) :: List.map._f (fun b ↦ (↑b.toNat : Int)) ((111 : UInt8) :: (118 : UInt8) :: (101 : UInt8) :: ([] : List UInt8)) (List.rec ⟨([] : List Int), PUnit.unit⟩ (fun head tail tail_ih ↦ ⟨List.map._f (fun b ↦ (↑b.toNat : Int)) (head :: tail) tail_ih, tail_ih⟩) ((118 : UInt8) :: (101 : UInt8) :: ([] : List UInt8)))).length : Int) + (1 : Int)).toNat (List.take (↑x.1.length : Int).toNat x.1)) = false →
 (decide ((1099511627776 : Int) < pu41V (List.drop ((↑((109 : Int) :: List.map._f (fun b ↦ (↑b.toNat : Int)) ((111 : UInt8) :: (118 : UInt8) :: (101 : UInt8) :: ([] : List UInt8)) (List.rec ⟨([] : List Int), PUnit.unit⟩ (fun head tail tail_ih ↦ ⟨List.map._f (fun b ↦ (↑b.toNat : Int)) (head :: tail) tail_ih, tail_ih⟩) ((118 : UInt8) :: (101 : UInt8) :: ([] : List UInt8)))).length : Int) + (1 : Int)).toNat (List.take (↑x.1.length : Int).toNat x.1))) = false →
 Holds (pu41V (List.drop ((↑((109 : Int) :: List.map._f (fun b ↦ (↑b.toNat : Int)) ((111 : UInt8) :: (118 : UInt8) :: (101 : UInt8) :: ([] : List UInt8)) (List.rec ⟨([] : List Int), PUnit.unit⟩ (fun head tail tail_ih ↦ ⟨List.map._f (fun b ↦ (↑b.toNat : Int)) (head :: tail) tail_ih, tail_ih⟩) ((118 : UInt8) :: (101 : UInt8) :: ([] : List UInt8)))).length : Int) + (1 : Int)).toNat (List.take (↑x.1.length : Int).toNat x.1)) ≤ (1099511627776 : Int) ∧
 (10 : Int) = (10 : Int)) ∧
 ((-9223372036854775808 : Int) ≤ (↑((109 : Int) :: List.map._f (fun b ↦ (↑b.toNat : Int)) ((111 : UInt8) :: (118 : UInt8) :: (101 : UInt8) :: ([] : List UInt8)) (List.rec ⟨([] : List Int), PUnit.unit⟩ (fun head tail tail_ih ↦ ⟨List.map._f (fun b ↦ (↑b.toNat : Int)) (head :: tail) tail_ih, tail_ih⟩) ((118 : UInt8) :: (101 : UInt8) :: ([] : List UInt8)))).length : Int) + (1 : Int) ∧
 (↑((109 : Int) :: List.map._f (fun b ↦ (↑b.toNat : Int)) ((111 : UInt8) :: (118 : UInt8) :: (101 : UInt8) :: ([] : List UInt8)) (List.rec ⟨([] : List Int), PUnit.unit⟩ (fun head tail tail_ih ↦ ⟨List.map._f (fun b ↦ (↑b.toNat : Int)) (head :: tail) tail_ih, tail_ih⟩) ((118 : UInt8) :: (101 : UInt8) :: ([] : List UInt8)))).length : Int) + (1 : Int) ≤ (9223372036854775807 : Int)) ∧
 (((0 : Int) ≤ (↑((109 : Int) :: List.map._f (fun b ↦ (↑b.toNat : Int)) ((111 : UInt8) :: (118 : UInt8) :: (101 : UInt8) :: ([] : List UInt8)) (List.rec ⟨([] : List Int), PUnit.unit⟩ (fun head tail tail_ih ↦ ⟨List.map._f (fun b ↦ (↑b.toNat : Int)) (head :: tail) tail_ih, tail_ih⟩) ((118 : UInt8) :: (101 : UInt8) :: ([] : List UInt8)))).length : Int) + (1 : Int) ∧
 (↑((109 : Int) :: List.map._f (fun b ↦ (↑b.toNat : Int)) ((111 : UInt8) :: (118 : UInt8) :: (101 : UInt8) :: ([] : List UInt8)) (List.rec ⟨([] : List Int), PUnit.unit⟩ (fun head tail tail_ih ↦ ⟨List.map._f (fun b ↦ (↑b.toNat : Int)) (head :: tail) tail_ih, tail_ih⟩) ((118 : UInt8) :: (101 : UInt8) :: ([] : List UInt8)))).length : Int) + (1 : Int) ≤ (↑x.1.length : Int)) ∧
 (↑x.1.length : Int) ≤ (↑x.1.length : Int)) ∧
 ((!decide (dec (pu41V (List.drop ((↑((109 : Int) :: List.map._f (fun b ↦ (↑b.toNat : Int)) ((111 : UInt8) :: (118 : UInt8) :: (101 : UInt8) :: ([] : List UInt8)) (List.rec ⟨([] : List Int), PUnit.unit⟩ (fun head tail tail_ih ↦ ⟨List.map._f (fun b ↦ (↑b.toNat : Int)) (head :: tail) tail_ih, tail_ih⟩) ((118 : UInt8) :: (101 : UInt8) :: ([] : List UInt8)))).length : Int) + (1 : Int)).toNat (List.take (↑x.1.length : Int).toNat x.1))) = List.drop ((↑((109 : Int) :: List.map._f (fun b ↦ (↑b.toNat : Int)) ((111 : UInt8) :: (118 : UInt8) :: (101 : UInt8) :: ([] : List UInt8)) (List.rec ⟨([] : List Int), PUnit.unit⟩ (fun head tail tail_ih ↦ ⟨List.map._f (fun b ↦ (↑b.toNat : Int)) (head :: tail) tail_ih, tail_ih⟩) ((118 : UInt8) :: (101 : UInt8) :: ([] : List UInt8)))).length : Int) + (1 : Int)).toNat (List.take (↑x.1.length : Int).toNat x.1))) = false →
 ((g.1 == (1 : Int)) = true →
 (decide ((255 : Int) < pu41V (List.drop ((↑((109 : Int) :: List.map._f (fun b ↦ (↑b.toNat : Int)) ((111 : UInt8) :: (118 : UInt8) :: (101 : UInt8) :: ([] : List UInt8)) (List.rec ⟨([] : List Int), PUnit.unit⟩ (fun head tail tail_ih ↦ ⟨List.map._f (fun b ↦ (↑b.toNat : Int)) (head :: tail) tail_ih, tail_ih⟩) ((118 : UInt8) :: (101 : UInt8) :: ([] : List UInt8)))).length : Int) + (1 : Int)).toNat (List.take (↑x.1.length : Int).toNat x.1))) = true →
 ((0 : Int), (0 : Int), (0 : Int), (0 : Int)) = (zreadB x.1).1 ∧
 false = (zreadB x.1).2) ∧
 (decide ((255 : Int) < pu41V (List.drop ((↑((109 : Int) :: List.map._f (fun b ↦ (↑b.toNat : Int)) ((111 : UInt8) :: (118 : UInt8) :: (101 : UInt8) :: ([] : List UInt8)) (List.rec ⟨([] : List Int), PUnit.unit⟩ (fun head tail tail_ih ↦ ⟨List.map._f (fun b ↦ (↑b.toNat : Int)) (head :: tail) tail_ih, tail_ih⟩) ((118 : UInt8) :: (101 : UInt8) :: ([] : List UInt8)))).length : Int) + (1 : Int)).toNat (List.take (↑x.1.length : Int).toNat x.1))) = false →
 ((-9223372036854775808 : Int) ≤ pu41V (List.drop ((↑((109 : Int) :: List.map._f (fun b ↦ (↑b.toNat : Int)) ((111 : UInt8) :: (118 : UInt8) :: (101 : UInt8) :: ([] : List UInt8)) (List.rec ⟨([] : List Int), PUnit.unit⟩ (fun head tail tail_ih ↦ ⟨List.map._f (fun b ↦ (↑b.toNat : Int)) (head :: tail) tail_ih, tail_ih⟩) ((118 : UInt8) :: (101 : UInt8) :: ([] : List UInt8)))).length : Int) + (1 : Int)).toNat (List.take (↑x.1.length : Int).toNat x.1)) ∧
 pu41V (List.drop ((↑((109 : Int) :: List.map._f (fun b ↦ (↑b.toNat : Int)) ((111 : UInt8) :: (118 : UInt8) :: (101 : UInt8) :: ([] : List UInt8)) (List.rec ⟨([] : List Int), PUnit.unit⟩ (fun head tail tail_ih ↦ ⟨List.map._f (fun b ↦ (↑b.toNat : Int)) (head :: tail) tail_ih, tail_ih⟩) ((118 : UInt8) :: (101 : UInt8) :: ([] : List UInt8)))).length : Int) + (1 : Int)).toNat (List.take (↑x.1.length : Int).toNat x.1)) ≤ (9223372036854775807 : Int)) ∧
 ((g.1 == (1 : Int)) = true →
 ((0 : Int) ≤ pu41V (List.drop ((↑((109 : Int) :: List.map._f (fun b ↦ (↑b.toNat : Int)) ((111 : UInt8) :: (118 : UInt8) :: (101 : UInt8) :: ([] : List UInt8)) (List.rec ⟨([] : List Int), PUnit.unit⟩ (fun head tail tail_ih ↦ ⟨List.map._f (fun b ↦ (↑b.toNat : Int)) (head :: tail) tail_ih, tail_ih⟩) ((118 : UInt8) :: (101 : UInt8) :: ([] : List UInt8)))).length : Int) + (1 : Int)).toNat (List.take (↑x.1.length : Int).toNat x.1)) ∧
 pu41V (List.drop ((↑((109 : Int) :: List.map._f (fun b ↦ (↑b.toNat : Int)) ((111 : UInt8) :: (118 : UInt8) :: (101 : UInt8) :: ([] : List UInt8)) (List.rec ⟨([] : List Int), PUnit.unit⟩ (fun head tail tail_ih ↦ ⟨List.map._f (fun b ↦ (↑b.toNat : Int)) (head :: tail) tail_ih, tail_ih⟩) ((118 : UInt8) :: (101 : UInt8) :: ([] : List UInt8)))).length : Int) + (1 : Int)).toNat (List.take (↑x.1.length : Int).toNat x.1)) ≤ (255 : Int)) ∧
 (g.1, pu41V (List.drop ((↑((109 : Int) :: List.map._f (fun b ↦ (↑b.toNat : Int)) ((111 : UInt8) :: (118 : UInt8) :: (101 : UInt8) :: ([] : List UInt8)) (List.rec ⟨([] : List Int), PUnit.unit⟩ (fun head tail tail_ih ↦ ⟨List.map._f (fun b ↦ (↑b.toNat : Int)) (head :: tail) tail_ih, tail_ih⟩) ((118 : UInt8) :: (101 : UInt8) :: ([] : List UInt8)))).length : Int) + (1 : Int)).toNat (List.take (↑x.1.length : Int).toNat x.1)), (0 : Int), pu41V (List.drop ((↑((109 : Int) :: List.map._f (fun b ↦ (↑b.toNat : Int)) ((111 : UInt8) :: (118 : UInt8) :: (101 : UInt8) :: ([] : List UInt8)) (List.rec ⟨([] : List Int), PUnit.unit⟩ (fun head tail tail_ih ↦ ⟨List.map._f (fun b ↦ (↑b.toNat : Int)) (head :: tail) tail_ih, tail_ih⟩) ((118 : UInt8) :: (101 : UInt8) :: ([] : List UInt8)))).length : Int) + (1 : Int)).toNat (List.take (↑x.1.length : Int).toNat x.1))) = (zreadB x.1).1 ∧
 true = (zreadB x.1).2) ∧
 ((g.1 == (1 : Int)) = false →
 (g.1, pu41V (List.drop ((↑((109 : Int) :: List.map._f (fun b ↦ (↑b.toNat : Int)) ((111 : UInt8) :: (118 : UInt8) :: (101 : UInt8) :: ([] : List UInt8)) (List.rec ⟨([] : List Int), PUnit.unit⟩ (fun head tail tail_ih ↦ ⟨List.map._f (fun b ↦ (↑b.toNat : Int)) (head :: tail) tail_ih, tail_ih⟩) ((118 : UInt8) :: (101 : UInt8) :: ([] : List UInt8)))).length : Int) + (1 : Int)).toNat (List.take (↑x.1.length : Int).toNat x.1)), (0 : Int), (0 : Int)) = (zreadB x.1).1 ∧
 true = (zreadB x.1).2))) ∧
 ((g.1 == (1 : Int)) = !true →
 ((-9223372036854775808 : Int) ≤ pu41V (List.drop ((↑((109 : Int) :: List.map._f (fun b ↦ (↑b.toNat : Int)) ((111 : UInt8) :: (118 : UInt8) :: (101 : UInt8) :: ([] : List UInt8)) (List.rec ⟨([] : List Int), PUnit.unit⟩ (fun head tail tail_ih ↦ ⟨List.map._f (fun b ↦ (↑b.toNat : Int)) (head :: tail) tail_ih, tail_ih⟩) ((118 : UInt8) :: (101 : UInt8) :: ([] : List UInt8)))).length : Int) + (1 : Int)).toNat (List.take (↑x.1.length : Int).toNat x.1)) ∧
 pu41V (List.drop ((↑((109 : Int) :: List.map._f (fun b ↦ (↑b.toNat : Int)) ((111 : UInt8) :: (118 : UInt8) :: (101 : UInt8) :: ([] : List UInt8)) (List.rec ⟨([] : List Int), PUnit.unit⟩ (fun head tail tail_ih ↦ ⟨List.map._f (fun b ↦ (↑b.toNat : Int)) (head :: tail) tail_ih, tail_ih⟩) ((118 : UInt8) :: (101 : UInt8) :: ([] : List UInt8)))).length : Int) + (1 : Int)).toNat (List.take (↑x.1.length : Int).toNat x.1)) ≤ (9223372036854775807 : Int)) ∧
 ((g.1 == (1 : Int)) = true →
 ((0 : Int) ≤ pu41V (List.drop ((↑((109 : Int) :: List.map._f (fun b ↦ (↑b.toNat : Int)) ((111 : UInt8) :: (118 : UInt8) :: (101 : UInt8) :: ([] : List UInt8)) (List.rec ⟨([] : List Int), PUnit.unit⟩ (fun head tail tail_ih ↦ ⟨List.map._f (fun b ↦ (↑b.toNat : Int)) (head :: tail) tail_ih, tail_ih⟩) ((118 : UInt8) :: (101 : UInt8) :: ([] : List UInt8)))).length : Int) + (1 : Int)).toNat (List.take (↑x.1.length : Int).toNat x.1)) ∧
 pu41V (List.drop ((↑((109 : Int) :: List.map._f (fun b ↦ (↑b.toNat : Int)) ((111 : UInt8) :: (118 : UInt8) :: (101 : UInt8) :: ([] : List UInt8)) (List.rec ⟨([] : List Int), PUnit.unit⟩ (fun head tail tail_ih ↦ ⟨List.map._f (fun b ↦ (↑b.toNat : Int)) (head :: tail) tail_ih, tail_ih⟩) ((118 : UInt8) :: (101 : UInt8) :: ([] : List UInt8)))).length : Int) + (1 : Int)).toNat (List.take (↑x.1.length : Int).toNat x.1)) ≤ (255 : Int)) ∧
 (g.1, pu41V (List.drop ((↑((109 : Int) :: List.map._f (fun b ↦ (↑b.toNat : Int)) ((111 : UInt8) :: (118 : UInt8) :: (101 : UInt8) :: ([] : List UInt8)) (List.rec ⟨([] : List Int), PUnit.unit⟩ (fun head tail tail_ih ↦ ⟨List.map._f (fun b ↦ (↑b.toNat : Int)) (head :: tail) tail_ih, tail_ih⟩) ((118 : UInt8) :: (101 : UInt8) :: ([] : List UInt8)))).length : Int) + (1 : Int)).toNat (List.take (↑x.1.length : Int).toNat x.1)), (0 : Int), pu41V (List.drop ((↑((109 : Int) :: List.map._f (fun b ↦ (↑b.toNat : Int)) ((111 : UInt8) :: (118 : UInt8) :: (101 : UInt8) :: ([] : List UInt8)) (List.rec ⟨([] : List Int), PUnit.unit⟩ (fun head tail tail_ih ↦ ⟨List.map._f (fun b ↦ (↑b.toNat : Int)) (head :: tail) tail_ih, tail_ih⟩) ((118 : UInt8) :: (101 : UInt8) :: ([] : List UInt8)))).length : Int) + (1 : Int)).toNat (List.take (↑x.1.length : Int).toNat x.1))) = (zreadB x.1).1 ∧
 true = (zreadB x.1).2) ∧
 ((g.1 == (1 : Int)) = false →
 (g.1, pu41V (List.drop ((↑((109 : Int) :: List.map._f (fun b ↦ (↑b.toNat : Int)) ((111 : UInt8) :: (118 : UInt8) :: (101 : UInt8) :: ([] : List UInt8)) (List.rec ⟨([] : List Int), PUnit.unit⟩ (fun head tail tail_ih ↦ ⟨List.map._f (fun b ↦ (↑b.toNat : Int)) (head :: tail) tail_ih, tail_ih⟩) ((118 : UInt8) :: (101 : UInt8) :: ([] : List UInt8)))).length : Int) + (1 : Int)).toNat (List.take (↑x.1.length : Int).toNat x.1)), (0 : Int), (0 : Int)) = (zreadB x.1).1 ∧
 true = (zreadB x.1).2))) ∧
 ((!decide (dec (pu41V (List.drop ((↑((109 : Int) :: List.map._f (fun b ↦ (↑b.toNat : Int)) ((111 : UInt8) :: (118 : UInt8) :: (101 : UInt8) :: ([] : List UInt8)) (List.rec ⟨([] : List Int), PUnit.unit⟩ (fun head tail tail_ih ↦ ⟨List.map._f (fun b ↦ (↑b.toNat : Int)) (head :: tail) tail_ih, tail_ih⟩) ((118 : UInt8) :: (101 : UInt8) :: ([] : List UInt8)))).length : Int) + (1 : Int)).toNat (List.take (↑x.1.length : Int).toNat x.1))) = List.drop ((↑((109 : Int) :: List.map._f (fun b ↦ (↑b.toNat : Int)) ((111 : UInt8) :: (118 : UInt8) :: (101 : UInt8) :: ([] : List UInt8)) (List.rec ⟨([] : List Int), PUnit.unit⟩ (fun head tail tail_ih ↦ ⟨List.map._f (fun b ↦ (↑b.toNat : Int)) (head :: tail) tail_ih, tail_ih⟩) ((118 : UInt8) :: (101 : UInt8) :: ([] : List UInt8)))).length : Int) + (1 : Int)).toNat (List.take (↑x.1.length : Int).toNat x.1))) = !false →
 ((0 : Int), (0 : Int), (0 : Int), (0 : Int)) = (zreadB x.1).1 ∧
 false = (zreadB x.1).2)) ∧
 (decide ((1099511627776 : Int) < pu41V (List.drop ((↑((109 : Int) :: List.map._f (fun b ↦ (↑b.toNat : Int)) ((111 : UInt8) :: (118 : UInt8) :: (101 : UInt8) :: ([] : List UInt8)) (List.rec ⟨([] : List Int), PUnit.unit⟩ (fun head tail tail_ih ↦ ⟨List.map._f (fun b ↦ (↑b.toNat : Int)) (head :: tail) tail_ih, tail_ih⟩) ((118 : UInt8) :: (101 : UInt8) :: ([] : List UInt8)))).length : Int) + (1 : Int)).toNat (List.take (↑x.1.length : Int).toNat x.1))) = !false →
 ((0 : Int), (0 : Int), (0 : Int), (0 : Int)) = (zreadB x.1).1 ∧
 false = (zreadB x.1).2)) ∧
 (pu41E (List.drop ((↑((109 : Int) :: List.map._f (fun b ↦ (↑b.toNat : Int)) ((111 : UInt8) :: (118 : UInt8) :: (101 : UInt8) :: ([] : List UInt8)) (List.rec ⟨([] : List Int), PUnit.unit⟩ (fun head tail tail_ih ↦ ⟨List.map._f (fun b ↦ (↑b.toNat : Int)) (head :: tail) tail_ih, tail_ih⟩) ((118 : UInt8) :: (101 : UInt8) :: ([] : List UInt8)))).length : Int) + (1 : Int)).toNat (List.take (↑x.1.length : Int).toNat x.1)) = !false →
 ((0 : Int), (0 : Int), (0 : Int), (0 : Int)) = (zreadB x.1).1 ∧
 false = (zreadB x.1).2))) ∧
 ((g.1 == (6 : Int)) = false →
 ((-9223372036854775808 : Int) ≤ (↑([] : List Int).length : Int) + (1 : Int) ∧
 (↑([] : List Int).length : Int) + (1 : Int) ≤ (9223372036854775807 : Int)) ∧
 ((!decide ((↑x.1.length : Int) ≤ (↑([] : List Int).length : Int) + (1 : Int))) = true →
 (!decide ((↑x.1.length : Int) ≤ (↑([] : List Int).length : Int) + (1 : Int))) = true) ∧
 ((!decide ((↑x.1.length : Int) ≤ (↑([] : List Int).length : Int) + (1 : Int))) = true →
 (!decide ((↑x.1.length : Int) ≤ (↑([] : List Int).length : Int) + (1 : Int))) = true ∧
 (-9223372036854775808 : Int) ≤ (↑([] : List Int).length : Int) + (1 : Int) ∧
 (↑([] : List Int).length : Int) + (1 : Int) ≤ (9223372036854775807 : Int)) ∧
 ((!decide ((↑x.1.length : Int) ≤ (↑([] : List Int).length : Int) + (1 : Int))) = true →
 ((!decide ((↑x.1.length : Int) ≤ (↑([] : List Int).length : Int) + (1 : Int))) = true ∧
 (!decide ((↑x.1.length : Int) ≤ (↑([] : List Int).length : Int) + (1 : Int))) = true) ∧
 ((0 : Int) ≤ (0 : Int) ∧
 (0 : Int) ≤ (↑([] : List Int).length : Int) + (1 : Int)) ∧
 (↑([] : List Int).length : Int) + (1 : Int) ≤ (↑x.1.length : Int)) ∧
 ((!decide ((↑x.1.length : Int) ≤ (↑([] : List Int).length : Int) + (1 : Int))) = true →
 (!decide ((↑x.1.length : Int) ≤ (↑([] : List Int).length : Int) + (1 : Int))) = true ∧
 ([] : List Int).length + ((32 : Int) :: ([] : List Int)).length ≤ (9223372036854775807 : Nat)) ∧
 ((!decide ((↑x.1.length : Int) ≤ (↑([] : List Int).length : Int) + (1 : Int))) = true →
 (!decide ((↑x.1.length : Int) ≤ (↑([] : List Int).length : Int) + (1 : Int))) = true ∧
 (!decide ((↑x.1.length : Int) ≤ (↑([] : List Int).length : Int) + (1 : Int))) = true) ∧
 (decide ((↑x.1.length : Int) ≤ (↑([] : List Int).length : Int) + (1 : Int)) = false →
 (!decide ((↑x.1.length : Int) ≤ (↑([] : List Int).length : Int) + (1 : Int))) = true) ∧
 ((decide ((↑x.1.length : Int) ≤ (↑([] : List Int).length : Int) + (1 : Int)) || !decide (List.drop (Int.toNat (0 : Int)) (List.take ((↑([] : List Int).length : Int) + (1 : Int)).toNat x.1) = ([] : List Int) ++ (32 : Int) :: ([] : List Int))) = true →
 ((-9223372036854775808 : Int) ≤ g.1 + (1 : Int) ∧
 g.1 + (1 : Int) ≤ (9223372036854775807 : Int)) ∧
 (((1 : Int) ≤ g.1 + (1 : Int) ∧
 g.1 + (1 : Int) ≤ (7 : Int) ∧
 zreadB x.1 = zreadO x.1 ((7 : Int) - (g.1 + (1 : Int))).toNat) ∧
 ((7 : Int) - (g.1 + (1 : Int))).toNat < ((7 : Int) - g.1).toNat) ∧
 (x.1 = x.1 ∧
 (True ∧
 True) ∧
 g.1 + (1 : Int) = g.1 + (1 : Int) ∧
 True) ∧
 ((RR (0 : Int) ∧
 RR (0 : Int) ∧
 RR (0 : Int) ∧
 RR (0 : Int) ∧
 True) ∧
 True) ∧
 True) ∧
 ((decide ((↑x.1.length : Int) ≤ (↑([] : List Int).length : Int) + (1 : Int)) || !decide (List.drop (Int.toNat (0 : Int)) (List.take ((↑([] : List Int).length : Int) + (1 : Int)).toNat x.1) = ([] : List Int) ++ (32 : Int) :: ([] : List Int))) = false →
 ((-9223372036854775808 : Int) ≤ (↑([] : List Int).length : Int) + (1 : Int) ∧
 (↑([] : List Int).length : Int) + (1 : Int) ≤ (9223372036854775807 : Int)) ∧
 (((0 : Int) ≤ (↑([] : List Int).length : Int) + (1 : Int) ∧
 (↑([] : List Int).length : Int) + (1 : Int) ≤ (↑x.1.length : Int)) ∧
 (↑x.1.length : Int) ≤ (↑x.1.length : Int)) ∧
 Holds ((List.drop ((↑([] : List Int).length : Int) + (1 : Int)).toNat (List.take (↑x.1.length : Int).toNat x.1)).length ≤ (1048576 : Nat) ∧
 RR (10 : Int) ∧
 (41 : Int) = (41 : Int)) ∧
 (pu41E (List.drop ((↑([] : List Int).length : Int) + (1 : Int)).toNat (List.take (↑x.1.length : Int).toNat x.1)) = false →
 (decide ((1099511627776 : Int) < pu41V (List.drop ((↑([] : List Int).length : Int) + (1 : Int)).toNat (List.take (↑x.1.length : Int).toNat x.1))) = false →
 Holds (pu41V (List.drop ((↑([] : List Int).length : Int) + (1 : Int)).toNat (List.take (↑x.1.length : Int).toNat x.1)) ≤ (1099511627776 : Int) ∧
 (10 : Int) = (10 : Int)) ∧
 ((-9223372036854775808 : Int) ≤ (↑([] : List Int).length : Int) + (1 : Int) ∧
 (↑([] : List Int).length : Int) + (1 : Int) ≤ (9223372036854775807 : Int)) ∧
 (((0 : Int) ≤ (↑([] : List Int).length : Int) + (1 : Int) ∧
 (↑([] : List Int).length : Int) + (1 : Int) ≤ (↑x.1.length : Int)) ∧
 (↑x.1.length : Int) ≤ (↑x.1.length : Int)) ∧
 ((!decide (dec (pu41V (List.drop ((↑([] : List Int).length : Int) + (1 : Int)).toNat (List.take (↑x.1.length : Int).toNat x.1))) = List.drop ((↑([] : List Int).length : Int) + (1 : Int)).toNat (List.take (↑x.1.length : Int).toNat x.1))) = false →
 ((g.1 == (1 : Int)) = true →
 (decide ((255 : Int) < pu41V (List.drop ((↑([] : List Int).length : Int) + (1 : Int)).toNat (List.take (↑x.1.length : Int).toNat x.1))) = true →
 ((0 : Int), (0 : Int), (0 : Int), (0 : Int)) = (zreadB x.1).1 ∧
 false = (zreadB x.1).2) ∧
 (decide ((255 : Int) < pu41V (List.drop ((↑([] : List Int).length : Int) + (1 : Int)).toNat (List.take (↑x.1.length : Int).toNat x.1))) = false →
 ((-9223372036854775808 : Int) ≤ pu41V (List.drop ((↑([] : List Int).length : Int) + (1 : Int)).toNat (List.take (↑x.1.length : Int).toNat x.1)) ∧
 pu41V (List.drop ((↑([] : List Int).length : Int) + (1 : Int)).toNat (List.take (↑x.1.length : Int).toNat x.1)) ≤ (9223372036854775807 : Int)) ∧
 False)) ∧
 ((g.1 == (1 : Int)) = !true →
 ((-9223372036854775808 : Int) ≤ pu41V (List.drop ((↑([] : List Int).length : Int) + (1 : Int)).toNat (List.take (↑x.1.length : Int).toNat x.1)) ∧
 pu41V (List.drop ((↑([] : List Int).length : Int) + (1 : Int)).toNat (List.take (↑x.1.length : Int).toNat x.1)) ≤ (9223372036854775807 : Int)) ∧
 False)) ∧
 ((!decide (dec (pu41V (List.drop ((↑([] : List Int).length : Int) + (1 : Int)).toNat (List.take (↑x.1.length : Int).toNat x.1))) = List.drop ((↑([] : List Int).length : Int) + (1 : Int)).toNat (List.take (↑x.1.length : Int).toNat x.1))) = !false →
 ((0 : Int), (0 : Int), (0 : Int), (0 : Int)) = (zreadB x.1).1 ∧
 false = (zreadB x.1).2)) ∧
 (decide ((1099511627776 : Int) < pu41V (List.drop ((↑([] : List Int).length : Int) + (1 : Int)).toNat (List.take (↑x.1.length : Int).toNat x.1))) = !false →
 ((0 : Int), (0 : Int), (0 : Int), (0 : Int)) = (zreadB x.1).1 ∧
 false = (zreadB x.1).2)) ∧
 (pu41E (List.drop ((↑([] : List Int).length : Int) + (1 : Int)).toNat (List.take (↑x.1.length : Int).toNat x.1)) = !false →
 ((0 : Int), (0 : Int), (0 : Int), (0 : Int)) = (zreadB x.1).1 ∧
 false = (zreadB x.1).2))))))))) ∧
 (decide (g.1 ≤ (6 : Int)) = false →
 ((0 : Int), (0 : Int), (0 : Int), (0 : Int)) = (zreadB x.1).1 ∧
 false = (zreadB x.1).2)

theorem E_zread_eq (x : HL (cZread : Ctr).as) : vc (fx_zread x) 2 16 Tryd.f16 (cZread) x = E_zread x := by kernel_rfl

def E_zparse (x : List Int × Unit) : Prop := ((((0 : Int) ≤ (0 : Int) ∧
 (0 : Int) ≤ (0 : Int) ∧
 (0 : Int) ≤ (↑x.1.length : Int) ∧
 (↑([] : List (Int × Int × Int × Int)).length : Int) ≤ (0 : Int) ∧
 ¬(10 : Int) ∈ List.take ((0 : Int) - (0 : Int)).toNat (List.drop (Int.toNat (0 : Int)) x.1) ∧
 parseB x.1 = parseO (x.1.length - Int.toNat (0 : Int) + (1 : Nat)) (List.drop (Int.toNat (0 : Int)) x.1) (↑([] : List (Int × Int × Int × Int)).length : Int) ([] : List (Int × Int × Int × Int))) ∧
 True) ∧
 (x.1 = x.1 ∧
 True ∧
 RR (0 : Int) ∧
 x.1 = x.1 ∧
 RR (↑x.1.length : Int) ∧
 RR (0 : Int) ∧
 True) ∧
 (RR ([] : List (Int × Int × Int × Int)) ∧
 True) ∧
 True) ∧
 ∀ (g : List (Int × Int × Int × Int) × Int × Int × Unit), (0 : Int) ≤ g.2.1 ∧
 g.2.1 ≤ g.2.2.1 ∧
 g.2.2.1 ≤ (↑x.1.length : Int) ∧
 (↑g.1.length : Int) ≤ g.2.1 ∧
 ¬(10 : Int) ∈ List.take (g.2.2.1 - g.2.1).toNat (List.drop g.2.1.toNat x.1) ∧
 parseB x.1 = parseO (x.1.length - g.2.1.toNat + (1 : Nat)) (List.drop g.2.1.toNat x.1) (↑g.1.length : Int) g.1 →
 (g.1.length ≤ (9223372036854775807 : Nat) ∧
 ∀ (x : Int × Int × Int × Int), x ∈ g.1 →
 ((-9223372036854775808 : Int) ≤ x.1 ∧
 x.1 ≤ (9223372036854775807 : Int)) ∧
 ((-9223372036854775808 : Int) ≤ x.2.1 ∧
 x.2.1 ≤ (9223372036854775807 : Int)) ∧
 ((-9223372036854775808 : Int) ≤ x.2.2.1 ∧
 x.2.2.1 ≤ (9223372036854775807 : Int)) ∧
 (0 : Int) ≤ x.2.2.2 ∧
 x.2.2.2 ≤ (255 : Int)) ∧
 ((-9223372036854775808 : Int) ≤ g.2.1 ∧
 g.2.1 ≤ (9223372036854775807 : Int)) ∧
 ((-9223372036854775808 : Int) ≤ g.2.2.1 ∧
 g.2.2.1 ≤ (9223372036854775807 : Int)) ∧
 True →
 (decide (g.2.2.1 < (↑x.1.length : Int)) = true →
 ((0 : Int) ≤ g.2.2.1 ∧
 g.2.2.1 < (↑x.1.length : Int)) ∧
 ((x.1.getD g.2.2.1.toNat (0 : Int) != (10 : Int)) = true →
 ((-9223372036854775808 : Int) ≤ g.2.2.1 + (1 : Int) ∧
 g.2.2.1 + (1 : Int) ≤ (9223372036854775807 : Int)) ∧
 (((0 : Int) ≤ g.2.1 ∧
 g.2.1 ≤ g.2.2.1 + (1 : Int) ∧
 g.2.2.1 + (1 : Int) ≤ (↑x.1.length : Int) ∧
 (↑g.1.length : Int) ≤ g.2.1 ∧
 ¬(10 : Int) ∈ List.take (g.2.2.1 + (1 : Int) - g.2.1).toNat (List.drop g.2.1.toNat x.1) ∧
 parseB x.1 = parseO (x.1.length - g.2.1.toNat + (1 : Nat)) (List.drop g.2.1.toNat x.1) (↑g.1.length : Int) g.1) ∧
 ((↑x.1.length : Int) - (g.2.2.1 + (1 : Int))).toNat < ((↑x.1.length : Int) - g.2.2.1).toNat) ∧
 (x.1 = x.1 ∧
 True ∧
 g.2.1 = g.2.1 ∧
 x.1 = x.1 ∧
 RR (↑x.1.length : Int) ∧
 g.2.2.1 + (1 : Int) = g.2.2.1 + (1 : Int) ∧
 True) ∧
 (g.1 = g.1 ∧
 True) ∧
 True) ∧
 ((x.1.getD g.2.2.1.toNat (0 : Int) != (10 : Int)) = false →
 (((0 : Int) ≤ g.2.1 ∧
 g.2.1 ≤ g.2.2.1) ∧
 g.2.2.1 ≤ (↑x.1.length : Int)) ∧
 Holds ((List.drop g.2.1.toNat (List.take g.2.2.1.toNat x.1)).length ≤ (1048576 : Nat)) ∧
 ((!(zreadB (List.drop g.2.1.toNat (List.take g.2.2.1.toNat x.1))).2) = true →
 ([] : List (Int × Int × Int × Int)) = (parseB x.1).1 ∧
 (↑g.1.length : Int) = (parseB x.1).2.1 ∧
 (1 : Int) = (parseB x.1).2.2) ∧
 ((!(zreadB (List.drop g.2.1.toNat (List.take g.2.2.1.toNat x.1))).2) = false →
 (g.1.length + ((((0 : Int), (0 : Int), (0 : Int), (0 : Int)) :: ([] : List (Int × Int × Int × Int))).set (0 : Nat) ((zreadB (List.drop g.2.1.toNat (List.take g.2.2.1.toNat x.1))).1.1, (zreadB (List.drop g.2.1.toNat (List.take g.2.2.1.toNat x.1))).1.2.1, (zreadB (List.drop g.2.1.toNat (List.take g.2.2.1.toNat x.1))).1.2.2.1, (zreadB (List.drop g.2.1.toNat (List.take g.2.2.1.toNat x.1))).1.2.2.2)).length ≤ (9223372036854775807 : Nat) ∧
 (g.1.length + ((((0 : Int), (0 : Int), (0 : Int), (0 : Int)) :: ([] : List (Int × Int × Int × Int))).set (0 : Nat) ((zreadB (List.drop g.2.1.toNat (List.take g.2.2.1.toNat x.1))).1.1, (zreadB (List.drop g.2.1.toNat (List.take g.2.2.1.toNat x.1))).1.2.1, (zreadB (List.drop g.2.1.toNat (List.take g.2.2.1.toNat x.1))).1.2.2.1, (zreadB (List.drop g.2.1.toNat (List.take g.2.2.1.toNat x.1))).1.2.2.2)).length + (g.1.length + ((((0 : Int), (0 : Int), (0 : Int), (0 : Int)) :: ([] : List (Int × Int × Int × Int))).set (0 : Nat) ((zreadB (List.drop g.2.1.toNat (List.take g.2.2.1.toNat x.1))).1.1, (zreadB (List.drop g.2.1.toNat (List.take g.2.2.1.toNat x.1))).1.2.1, (zreadB (List.drop g.2.1.toNat (List.take g.2.2.1.toNat x.1))).1.2.2.1, (zreadB (List.drop g.2.1.toNat (List.take g.2.2.1.toNat x.1))).1.2.2.2)).length) / (4 : Nat) + (192 : Nat)) * (32 : Nat) ≤ (281474976710656 : Nat)) ∧
 ((-9223372036854775808 : Int) ≤ g.2.2.1 + (1 : Int) ∧
 g.2.2.1 + (1 : Int) ≤ (9223372036854775807 : Int)) ∧
 ((-9223372036854775808 : Int) ≤ g.2.2.1 + (1 : Int) ∧
 g.2.2.1 + (1 : Int) ≤ (9223372036854775807 : Int)) ∧
 (((0 : Int) ≤ g.2.2.1 + (1 : Int) ∧
 g.2.2.1 + (1 : Int) ≤ g.2.2.1 + (1 : Int) ∧
 g.2.2.1 + (1 : Int) ≤ (↑x.1.length : Int) ∧
 (↑(g.1 ++ (((0 : Int), (0 : Int), (0 : Int), (0 : Int)) :: ([] : List (Int × Int × Int × Int))).set (0 : Nat) ((zreadB (List.drop g.2.1.toNat (List.take g.2.2.1.toNat x.1))).1.1, (zreadB (List.drop g.2.1.toNat (List.take g.2.2.1.toNat x.1))).1.2.1, (zreadB (List.drop g.2.1.toNat (List.take g.2.2.1.toNat x.1))).1.2.2.1, (zreadB (List.drop g.2.1.toNat (List.take g.2.2.1.toNat x.1))).1.2.2.2)).length : Int) ≤ g.2.2.1 + (1 : Int) ∧
 ¬(10 : Int) ∈ List.take (g.2.2.1 + (1 : Int) - (g.2.2.1 + (1 : Int))).toNat (List.drop (g.2.2.1 + (1 : Int)).toNat x.1) ∧
 parseB x.1 = parseO (x.1.length - (g.2.2.1 + (1 : Int)).toNat + (1 : Nat)) (List.drop (g.2.2.1 + (1 : Int)).toNat x.1) (↑(g.1 ++ (((0 : Int), (0 : Int), (0 : Int), (0 : Int)) :: ([] : List (Int × Int × Int × Int))).set (0 : Nat) ((zreadB (List.drop g.2.1.toNat (List.take g.2.2.1.toNat x.1))).1.1, (zreadB (List.drop g.2.1.toNat (List.take g.2.2.1.toNat x.1))).1.2.1, (zreadB (List.drop g.2.1.toNat (List.take g.2.2.1.toNat x.1))).1.2.2.1, (zreadB (List.drop g.2.1.toNat (List.take g.2.2.1.toNat x.1))).1.2.2.2)).length : Int) (g.1 ++ (((0 : Int), (0 : Int), (0 : Int), (0 : Int)) :: ([] : List (Int × Int × Int × Int))).set (0 : Nat) ((zreadB (List.drop g.2.1.toNat (List.take g.2.2.1.toNat x.1))).1.1, (zreadB (List.drop g.2.1.toNat (List.take g.2.2.1.toNat x.1))).1.2.1, (zreadB (List.drop g.2.1.toNat (List.take g.2.2.1.toNat x.1))).1.2.2.1, (zreadB (List.drop g.2.1.toNat (List.take g.2.2.1.toNat x.1))).1.2.2.2))) ∧
 ((↑x.1.length : Int) - (g.2.2.1 + (1 : Int))).toNat < ((↑x.1.length : Int) - g.2.2.1).toNat) ∧
 (x.1 = x.1 ∧
 True ∧
 g.2.2.1 + (1 : Int) = g.2.2.1 + (1 : Int) ∧
 x.1 = x.1 ∧
 RR (↑x.1.length : Int) ∧
 g.2.2.1 + (1 : Int) = g.2.2.1 + (1 : Int) ∧
 True) ∧
 (g.1 ++ (((0 : Int), (0 : Int), (0 : Int), (0 : Int)) :: ([] : List (Int × Int × Int × Int))).set (0 : Nat) ((zreadB (List.drop g.2.1.toNat (List.take g.2.2.1.toNat x.1))).1.1, (zreadB (List.drop g.2.1.toNat (List.take g.2.2.1.toNat x.1))).1.2.1, (zreadB (List.drop g.2.1.toNat (List.take g.2.2.1.toNat x.1))).1.2.2.1, (zreadB (List.drop g.2.1.toNat (List.take g.2.2.1.toNat x.1))).1.2.2.2) = g.1 ++ (((0 : Int), (0 : Int), (0 : Int), (0 : Int)) :: ([] : List (Int × Int × Int × Int))).set (0 : Nat) ((zreadB (List.drop g.2.1.toNat (List.take g.2.2.1.toNat x.1))).1.1, (zreadB (List.drop g.2.1.toNat (List.take g.2.2.1.toNat x.1))).1.2.1, (zreadB (List.drop g.2.1.toNat (List.take g.2.2.1.toNat x.1))).1.2.2.1, (zreadB (List.drop g.2.1.toNat (List.take g.2.2.1.toNat x.1))).1.2.2.2) ∧
 True) ∧
 True))) ∧
 (decide (g.2.2.1 < (↑x.1.length : Int)) = false →
 (decide (g.2.1 < (↑x.1.length : Int)) = true →
 ([] : List (Int × Int × Int × Int)) = (parseB x.1).1 ∧
 (↑g.1.length : Int) = (parseB x.1).2.1 ∧
 (1 : Int) = (parseB x.1).2.2) ∧
 (decide (g.2.1 < (↑x.1.length : Int)) = false →
 g.1 = (parseB x.1).1 ∧
 (0 : Int) = (parseB x.1).2.1 ∧
 (0 : Int) = (parseB x.1).2.2))

theorem E_zparse_eq (x : HL (cParse : Ctr).as) : vc (fx_zparse x) 1 7 Tryd.f7 (cParse) x = E_zparse x := by kernel_rfl

def E_law (x : List (Int × Int × Int × Int) × List Int × Unit) : Prop := Holds (x.1.length ≤ (1048576 : Nat)) ∧
 Holds (x.1.length ≤ (1048576 : Nat)) ∧
 Holds (x.2.1.length ≤ (1048576 : Nat)) ∧
 Holds (x.2.1.length ≤ (1048576 : Nat)) ∧
 (((printB x.1).2 == (printB x.1).2) = true →
 ((printB x.1).2 == (printB x.1).2) = true ∧
 ((printB x.1).2 == (printB x.1).2) = true) ∧
 (((printB x.1).2 == (printB x.1).2) = true →
 ((printB x.1).2 == (printB x.1).2) = true) ∧
 (((printB x.1).2 == (printB x.1).2 && decide ((printB x.1).1 = (printB x.1).1)) = true →
 ((printB x.1).2 == (printB x.1).2 && decide ((printB x.1).1 = (printB x.1).1)) = true ∧
 ((printB x.1).2 == (printB x.1).2 && decide ((printB x.1).1 = (printB x.1).1)) = true) ∧
 (((printB x.1).2 == (printB x.1).2 && decide ((printB x.1).1 = (printB x.1).1)) = true →
 ((printB x.1).2 == (printB x.1).2 && decide ((printB x.1).1 = (printB x.1).1)) = true) ∧
 (((printB x.1).2 == (printB x.1).2 && decide ((printB x.1).1 = (printB x.1).1) && (parseB x.2.1).2.2 == (parseB x.2.1).2.2) = true →
 ((printB x.1).2 == (printB x.1).2 && decide ((printB x.1).1 = (printB x.1).1) && (parseB x.2.1).2.2 == (parseB x.2.1).2.2) = true ∧
 ((printB x.1).2 == (printB x.1).2 && decide ((printB x.1).1 = (printB x.1).1) && (parseB x.2.1).2.2 == (parseB x.2.1).2.2) = true) ∧
 (((printB x.1).2 == (printB x.1).2 && decide ((printB x.1).1 = (printB x.1).1) && (parseB x.2.1).2.2 == (parseB x.2.1).2.2) = true →
 ((printB x.1).2 == (printB x.1).2 && decide ((printB x.1).1 = (printB x.1).1) && (parseB x.2.1).2.2 == (parseB x.2.1).2.2) = true) ∧
 (((printB x.1).2 == (printB x.1).2 && decide ((printB x.1).1 = (printB x.1).1) && (parseB x.2.1).2.2 == (parseB x.2.1).2.2 && (parseB x.2.1).2.1 == (parseB x.2.1).2.1) = true →
 (((printB x.1).2 == (printB x.1).2 && decide ((printB x.1).1 = (printB x.1).1) && (parseB x.2.1).2.2 == (parseB x.2.1).2.2 && (parseB x.2.1).2.1 == (parseB x.2.1).2.1) = true ∧
 ((printB x.1).2 == (printB x.1).2 && decide ((printB x.1).1 = (printB x.1).1) && (parseB x.2.1).2.2 == (parseB x.2.1).2.2 && (parseB x.2.1).2.1 == (parseB x.2.1).2.1) = true) ∧
 Holds True) ∧
 (((printB x.1).2 == (printB x.1).2 && decide ((printB x.1).1 = (printB x.1).1) && (parseB x.2.1).2.2 == (parseB x.2.1).2.2 && (parseB x.2.1).2.1 == (parseB x.2.1).2.1) = true →
 ((printB x.1).2 == (printB x.1).2 && decide ((printB x.1).1 = (printB x.1).1) && (parseB x.2.1).2.2 == (parseB x.2.1).2.2 && (parseB x.2.1).2.1 == (parseB x.2.1).2.1) = true) ∧
 ((printB x.1).2 == (printB x.1).2 && decide ((printB x.1).1 = (printB x.1).1) && (parseB x.2.1).2.2 == (parseB x.2.1).2.2 && (parseB x.2.1).2.1 == (parseB x.2.1).2.1 && decide ((parseB x.2.1).1 = (parseB x.2.1).1)) = true

theorem E_law_eq (x : HL (cLaw : Ctr).as) : vc (fx_law x) 1 3 Tryd.f3 (cLaw) x = E_law x := by kernel_rfl

end Go.Proofs.YtjafnenkgmbgaaaDoor.Bench
